/- Texts joined. -/
import Init
import Derived.WalkKit
import Derived.WalkLawsBesides
import Derived.WalkSpells
import Derived.ChangeKeysEq
import Derived.StillTail
import Derived.OrdersHeld
import Derived.Scope
set_option linter.unusedVariables false
set_option linter.unusedSimpArgs false
abbrev zB:=@if_neg
abbrev zC:=@if_pos
abbrev zD:=@Nat.le_refl
abbrev zE:=@Bool.and_eq_true
abbrev zF:=@List.mem_map
abbrev zG:=@List.mem_of_getElem?
abbrev zH:=@Nat.zero_add
abbrev zI:=@List.mem_filter
abbrev zJ:=@decide_eq_true
abbrev zK:=@List.mem_append
abbrev zL:=@decide_eq_false
abbrev zM:=@List.length_append
abbrev zN:=@List.getElem?_set_self
abbrev zO:=@List.getElem?_of_mem
abbrev zP:=@List.mem_singleton
abbrev zQ:=@List.getD_eq_getElem?_getD
abbrev zR:=@if_true
abbrev zS:=@List.map_cons
abbrev zT:=@beq_iff_eq
abbrev zU:=@decide_eq_true_eq
abbrev zV:=@List.length_cons
abbrev zW:=@List.getElem?_eq_none
abbrev zX:=@List.mem_cons
abbrev zY:=@List.length_take
abbrev zZ:=@Bool.false_eq_true
abbrev za:=@List.getElem?_map
abbrev zc:=@Int.eq_ofNat_of_zero_le
abbrev zd:=@List.getElem?_append_left
abbrev ze:=@Option.map_some
abbrev zg:=@List.getElem?_set_ne
abbrev zh:=@List.mem_range
abbrev zj:=@List.getElem?_take
abbrev zk:=@List.length_map
abbrev zl:=@Nat.add_mul
abbrev zm:=@List.getElem?_append_right
abbrev zo:=@List.ext_getElem?
abbrev zp:=@if_false
abbrev zr:=@List.append_assoc
abbrev zt:=@List.nodup_cons
abbrev zy:=@List.any_eq_true
abbrev jU:=@List.map_append
abbrev jP:=@Array.getElem?_eq_some_iff
abbrev jZ:=@Nat.eq_of_beq_eq_true
abbrev kb:=@Nat.lt_or_ge
abbrev kf:=@List.all_eq_true
abbrev j9:=@Nat.le_trans
abbrev ke:=@List.map_congr_left
abbrev ka:=@List.getElem_mem
abbrev ko:=@List.take_add_one
abbrev kc:=@Nat.add_zero
abbrev kg:=@List.length_drop
abbrev kC:=@List.mem_append_left
abbrev kL:=@Nat.two_pow_pos
abbrev kQ:=@List.getElem?_drop
abbrev kT:=@Bool.eq_iff_iff
abbrev lB:=@List.map_map
abbrev lC:=@List.append_nil
abbrev lp:=@List.cons_append
abbrev lz:=@List.take_of_length_le
abbrev lx:=@List.length_nil
abbrev l0:=@List.take_length
abbrev ma:=@Nat.mul_le_mul_right
abbrev mc:=@List.any_eq_false
abbrev mg:=@List.pairwise_iff_getElem
abbrev mb:=@Nat.mul_le_mul
abbrev mR:=@List.getElem?_replicate
abbrev mQ:=@Nat.pow_succ
abbrev mM:=@Bool.not_eq_true'
abbrev mS:=@List.mem_cons_of_mem
abbrev mB:=@beq_eq_false_iff_ne
abbrev ng:=@Nat.zero_lt_one
abbrev nG:=@List.findIdx?_eq_some_iff_getElem
abbrev nm:=@List.getElem?_set
abbrev nH:=@Nat.mul_one
abbrev nr:=@Bool.or_eq_true
abbrev ni:=@List.mem_cons_self
abbrev nt:=@List.getElem?_range
abbrev nC:=@List.set_set
abbrev nB:=@Bool.eq_false_iff
abbrev nR:=@Option.map_eq_some_iff
abbrev nT:=@List.nodup_append
abbrev oa:=@List.take_append_drop
abbrev nZ:=@List.mem_append_right
abbrev nY:=@List.find?_eq_none
abbrev nU:=@List.sum_cons
abbrev oA:=@Option.isSome_iff_exists
abbrev oZ:=@List.length_set
abbrev oL:=@Nat.pow_le_pow_right
abbrev pJ:=@List.take_append_of_le_length
abbrev pd:=@List.length_filter_le
abbrev oU:=@Nat.sub_self
abbrev qi:=@Nat.lt_trichotomy
abbrev pN:=@List.pairwise_append
abbrev qk:=@Option.getD_some
abbrev pX:=@Nat.min_eq_left
abbrev qg:=@List.length_pos_iff
abbrev qm:=@List.flatMap_cons
abbrev pZ:=@List.range_succ
abbrev qv:=@List.foldl_cons
abbrev rp:=@List.map_nil
abbrev qW:=@List.filter_eq_self
abbrev qT:=@Bool.not_eq_true
abbrev rk:=@Bool.true_and
abbrev sC:=@Nat.le_of_lt
abbrev sr:=@Array.getD_eq_getD_getElem?
abbrev r4:=@List.contains_eq_mem
abbrev r9:=@Option.toList_some
abbrev sH:=@List.nil_append
abbrev rZ:=@List.set_cons_succ
abbrev sy:=@List.pairwise_cons
abbrev sd:=@List.replicate_succ
abbrev sB:=@List.pairwise_map
abbrev r5:=@Option.map_eq_none_iff
abbrev sI:=@Nat.div_div_eq_div_mul
abbrev tu:=@List.getElem?_modify
abbrev tM:=@List.filter_cons
abbrev tf:=@List.filter_sublist
abbrev uf:=@List.getElem_map
abbrev tW:=@Bool.and_false
abbrev tG:=@List.mem_of_mem_drop
abbrev tK:=@List.find?_some
abbrev s7:=@List.mem_of_find?_eq_some
abbrev tO:=@List.eq_nil_of_length_eq_zero
abbrev tz:=@List.nodup_nil
abbrev tD:=@true_and
abbrev uv:=@List.find?_cons
abbrev vq:=@List.all_cons
abbrev uJ:=@List.map_id
abbrev uB:=@List.findIdx?_eq_none_iff
abbrev vu:=@List.flatten_cons
abbrev vv:=@Nat.mod_eq_of_lt
abbrev vn:=@Nat.mul_eq_zero
abbrev vz:=@List.getElem_of_mem
abbrev u9:=@Bool.and_true
abbrev uK:=@List.mem_of_mem_take
abbrev uu:=@Nat.lt_of_lt_of_le
abbrev vB:=@List.map_replicate
abbrev uN:=@Bool.decide_and
abbrev ux:=@Bool.false_and
abbrev uD:=@List.map_set
abbrev uM:=@List.drop_succ_cons
abbrev vt:=@List.foldl_append
abbrev uU:=@List.length_singleton
abbrev uE:=@of_decide_eq_true
abbrev wP:=@Int.le_refl
abbrev xf:=@Nat.mod_lt
abbrev wk:=@List.findIdx?_cons
abbrev vL:=@Nat.mul_assoc
abbrev wz:=@Nat.zero_mul
abbrev vN:=@Array.getElem?_push
abbrev xC:=@Nat.ne_of_lt
abbrev wa:=@Array.length_toList
abbrev vS:=@List.filter_congr
abbrev vI:=@List.filterMap_append
abbrev vJ:=@Bool.false_or
abbrev vG:=@List.mem_filterMap
abbrev wS:=@Bool.not_false
abbrev xg:=@Array.getElem?_append_left
abbrev xq:=@Nat.eq_of_mul_eq_mul_right
abbrev xe:=@List.length_flatten
abbrev xE:=@List.sum_replicate_nat
abbrev xl:=@Nat.add_assoc
abbrev wA:=@List.countP_cons
abbrev wW:=@List.filter_map
abbrev wN:=@List.filter_cons_of_neg
abbrev vW:=@List.filter_cons_of_pos
abbrev xk:=@List.filter_append
abbrev xA:=@List.count_append
abbrev xT:=@Nat.div_mul_le_self
abbrev An:=@List.map_eq_nil_iff
abbrev yH:=@Array.mem_of_getElem?
abbrev yJ:=@Array.getElem?_toList
abbrev yf:=@Array.getElem?_setIfInBounds_ne
abbrev xS:=@List.mem_map_of_mem
abbrev yT:=@List.mem_replicate
abbrev ym:=@Nat.le_of_ble_eq_true
abbrev yS:=@Array.isEmpty_iff
abbrev Ae:=@List.contains_iff_mem
abbrev xW:=@Array.getElem?_modify
abbrev yR:=@List.countP_eq_length_filter
abbrev yu:=@List.getElem?_cons_succ
abbrev xO:=@List.length_range
abbrev ye:=@List.drop_zero
abbrev yh:=@List.count_replicate
abbrev yI:=@List.take_take
abbrev yZ:=@List.take_left'
abbrev yd:=@List.take_succ_cons
abbrev yx:=@List.dropLast_eq_take
abbrev Ak:=@List.mem_or_eq_of_mem_set
abbrev Al:=@List.take_zero
abbrev yY:=@List.getElem?_cons_zero
abbrev yk:=@List.not_mem_nil
abbrev yi:=@List.count_eq_zero
abbrev Ai:=@List.size_toArray
abbrev yp:=@Int.dvd_of_emod_eq_zero
abbrev yv:=@of_decide_eq_false
abbrev AK:=@Nat.mul_div_cancel
abbrev B0:=@Array.toList_modify
abbrev Bo:=@Array.toList_eraseIdxIfInBounds
abbrev Cj:=@List.replicate_succ'
abbrev Dp:=@List.filter_filter
abbrev Dr:=@List.filterMap_cons
abbrev CO:=@Nat.lt_of_le_of_lt
abbrev CB:=@List.perm_ext_iff_of_nodup
abbrev B3:=@Nat.eq_zero_or_pos
abbrev AY:=@List.length_dropLast
abbrev Ce:=@List.set_append_right
abbrev C3:=@List.drop_eq_getElem_cons
abbrev Ck:=@Nat.add_sub_cancel_left
abbrev Bf:=@List.take_sublist
abbrev CE:=@List.drop_of_length_le
abbrev A3:=@List.find?_isSome
abbrev A4:=@List.eq_of_mem_replicate
abbrev B6:=@List.length_filter_lt_length_iff_exists
abbrev Bj:=@List.getElem?_zipWith
abbrev CM:=@List.nodup_iff_count
abbrev Cd:=@List.count_pos_iff
abbrev Dm:=@List.count_singleton_self
theorem cZ {α:Type _}{l:List α}{i:Nat}{a:α}:l[i]?=some a↔∃h:i<l.length,l[i]=a:=List.getElem?_eq_some_iff
theorem cX {α:Type _}{l:List α}{i:Nat}(h:i<l.length):l[i]?=some l[i]:=List.getElem?_eq_getElem h
theorem dD (n:Nat):(n:Int).toNat=n:=Int.toNat_natCast n
theorem O{p:Prop}(h:p:=by omega):p:=h
theorem aA{p:Prop}(h:p:=by simp):p:=h
theorem aB{p:Prop}(h:p:=by decide):p:=h
theorem aC{p:Prop}(h:p:=by simp only;omega):p:=h
theorem aD{p:Prop}(h:p:=by first|omega | (simp only;omega)):p:=h
theorem aE{p:Prop}(h:p:=by simp;omega):p:=h
abbrev aW(b:Nat):Option Go.Addr:=some ⟨b,0,none⟩
namespace Go.Ar
structure cA where
 size:Nat
 aF:Nat
 batch:Nat
 deriving DecidableEq
def cA.n (c:cA):Nat:=c.aF*256/c.size
def Uz (x y z:Int):Bool:=decide (8<=x)&&(decide (x<=512)&&(decide (x%8=0)&&(decide (1<=y)&&(decide (y<=4)&&(decide (x<=y*256)&&(decide (1<=z)&&decide (z<=32)))))))
def cA.ok (c:cA):Prop:=8<=c.size/\c.size<=512/\c.size%8=0/\1<=c.aF/\c.aF<=4/\c.size<=c.aF*256/\1<=c.batch/\c.batch<=32
theorem Hs (x y z:Int):Uz x y z=true↔8<=x/\x<=512/\x%8=0/\1<=y/\y<=4/\x<=y*256/\1<=z/\z<=32:=by simp[Uz]
theorem EV (c:cA):Uz c.size c.aF c.batch=true↔c.ok:=by
 rw[Hs];unfold cA.ok;omega
def Qo (t:Int×Int×Int):cA:=⟨t.1.toNat,t.2.1.toNat,t.2.2.toNat⟩
theorem G4 {x y z:Int}(h:Uz x y z=true):∃c:cA,c.ok/\Qo (x,y,z)=c/\x=c.size/\y=c.aF/\z=c.batch:=by
 rw[Hs]at h;refine⟨Qo (x,y,z),?_,rfl,?_,?_,?_⟩<;>simp only[Qo,cA.ok]<;>omega
def uw:List (Int×Int×Int)->Bool
 | x::y::l=>decide (x.1<y.1)&&uw (y::l)
 | _=>true
def QK (xs:List (Int×Int×Int)):Bool:=decide (1<=xs.length)&&(decide (xs.length<=40)&&(xs.all (λt=>Uz t.1 t.2.1 t.2.2)&&uw xs))
theorem cA.ok.rG {c:cA}(h:c.ok):1<=c.n:=by
 unfold cA.ok at h;exact(Nat.one_le_div_iff O).2 h.2.2.2.2.2.1
theorem cA.ok.kq {c:cA}(h:c.ok):c.n<=128:=by
 unfold cA.ok at h;unfold cA.n;have:c.aF*256/c.size<=1024/8:=Nat.div_le_div O O O;omega
theorem cA.wm (c:cA):c.n*c.size<=c.aF*256:=xT _ _
structure cH where
 st:Nat
 tk:List Bool
 deriving DecidableEq
def cH.many (s:cH):Nat:=s.tk.count true
def idx (c:cA)(s:cH)(x:Int):Option Nat:=if x<((s.st*256:Nat):Int)\/((s.st*256+s.tk.length*c.size:Nat):Int)<=x then none else some ((x-((s.st*256:Nat):Int)).toNat/c.size)
def at_ (c:cA)(s:cH)(i:Nat):Nat:=s.st*256+i*c.size
def obj (c:cA)(s:cH)(x:Int):Option Nat:=match idx c s x with
 | some i=>if x=((at_ c s i:Nat):Int)then some i else none
 | none=>none
theorem Ud {c:cA}{s:cH}{x:Int}{i:Nat}(hc:0<c.size):idx c s x=some i↔((at_ c s i:Nat):Int)<=x/\x<((at_ c s (i+1):Nat):Int)/\i<s.tk.length:=by
 unfold idx at_;constructor
 ·intro h;split at h
  ·cases h
  ·rename_i hn;cases h;obtain⟨y,rfl⟩:=zc (show 0<=x by omega);have e:((y:Int)-((s.st*256:Nat):Int)).toNat=y-s.st*256:=by omega
   rw[e];have g:(y-s.st*256)/c.size*c.size<=y-s.st*256:=xT _ _;have b:=Nat.lt_div_mul_add (a:=y-s.st*256) hc;have d:(y-s.st*256)/c.size<s.tk.length:=(Nat.div_lt_iff_lt_mul hc).2 O;rw[zl];omega
 ·rintro⟨g,b,d⟩;obtain⟨y,rfl⟩:=zc (show 0<=x by omega);have j:(i+1)*c.size<=s.tk.length*c.size:=ma _ d;rw[zB O];have e:((y:Int)-((s.st*256:Nat):Int)).toNat=y-s.st*256:=by omega
  rw[e]
  congr 1
  rw[zl]at b;refine Nat.div_eq_of_lt_le ?_ ?_
  ·omega
  ·rw[zl];omega
theorem U0 {c:cA}{s:cH}{x:Int}{i:Nat}(hc:0<c.size):obj c s x=some i↔x=((at_ c s i:Nat):Int)/\i<s.tk.length:=by
 unfold obj;constructor
 ·intro h;split at h
  ·rename_i j hj;split at h
   ·cases h;rename_i he;exact⟨he,((Ud hc).1 hj).2.2⟩
   ·cases h
  ·cases h
 ·rintro⟨rfl,hi⟩;have:idx c s ((at_ c s i:Nat):Int)=some i:=(Ud hc).2 ⟨wP _,by unfold at_;rw[zl];omega,hi⟩;rw[this];simp
def low (s:cH):Option Nat:=s.tk.findIdx? (· == false)
def cH.put (s:cH)(i:Nat)(v:Bool):cH:={s with tk:=s.tk.set i v}
def kK (c:cA)(ss:List cH)(x:Int):Option Nat:=ss.findIdx? λs=>(idx c s x).isSome
def dY (c:cA)(ss:List cH)(x:Int):Option Bool:=match kK c ss x with
 | some k=>match ss[k]? with
  | some s=>(obj c s x).map λi=>s.tk.getD i false
  | none=>none
 | none=>none
def xr (x y:cH):Bool:=decide (x.many>y.many)||(x.many==y.many&&decide (x.st<y.st))
def Zs (ss:List cH):Nat->Option Nat
 | 0=>none
 | k+1=>match ss[k]? with
  | some x=>if x.many<x.tk.length then(match Zs ss k with
   | some j=>match ss[j]? with
    | some y=>if xr x y then some k else some j
    | none=>some k
   | none=>some k)else Zs ss k
  | none=>Zs ss k
def iO (ss:List cH):Option Nat:=Zs ss ss.length
def iU (c:cA)(ss:List cH):Option (Nat×List cH):=match iO ss with
 | some k=>match ss[k]? with
  | some s=>match low s with
   | some i=>some (at_ c s i,ss.set k (s.put i true))
   | none=>none
  | none=>none
 | none=>none
def Kt (c:cA):Nat->List cH->List Nat×List cH
 | 0,ss=>([],ss)
 | m+1,ss=>match iU c ss with
  | some (x,ss')=>let r:=Kt c m ss';(x::r.1,r.2)
  | none=>([],ss)
def iE (c:cA)(ss:List cH)(xs:List Int):Int:=
 if xs.any (λx=>(dY c ss x).isNone)then 8 else if xs.any (λx=>dY c ss x==some false) || !decide xs.Nodup then 9 else 0
def fE (c:cA)(ss:List cH)(x:Int):List cH:=match kK c ss x with
 | some k=>match ss[k]? with
  | some s=>match obj c s x with
   | some i=>ss.set k (s.put i false)
   | none=>ss
  | none=>ss
 | none=>ss
def cK (ss:List cH):List cH:=ss.filter λs=>s.many != 0
def QF (ss:List cH):List Nat:=(ss.filter λs=>s.many==0).map (·.st)
def rm (c:cA)(ss:List cH)(x:Int):Option Nat:=match kK c ss x with
 | some k=>match ss[k]? with
  | some s=>(idx c s x).map (at_ c s)
  | none=>none
 | none=>none
def il (c:cA)(ss:List cH)(st:Nat):List cH:=ss.takeWhile (λs=>s.st<st)++⟨st,List.replicate c.n false⟩::ss.dropWhile (λs=>s.st<st)
def GN (c:cA)(ss:List cH)(x:Nat):Int:=if ss.any (λs=>max s.st x-min s.st x<c.aF)then 9 else 0
def pD (ss:List cH):Nat:=(ss.map λs=>s.tk.length-s.many).sum
structure gK where
 low:Nat
 bs:List (List Int)
 deriving DecidableEq
def gA {α:Type}(l:List α)(a b:Nat)(v:α):List α:=l.mapIdx λi x=>if a<=i/\i<b then v else x
theorem Vf {α:Type}(l:List α)(a b:Nat)(v:α):(gA l a b v).length=l.length:=by simp[gA]
theorem HG {α:Type}(l:List α)(a b:Nat)(v:α)(i:Nat):(gA l a b v)[i]?=(l[i]?).map λx=>if a<=i/\i<b then v else x:=by
 simp[gA,List.getElem?_mapIdx]
theorem MK {α:Type}{l:List α}{a b:Nat}{v:α}(h1:a<=b)(h2:b<=l.length):gA l a b v=l.take a++List.replicate (b-a) v++l.drop b:=by
 apply zo;intro i;rw[HG];rcases kb i a with h|h
 ·rw[zr,zd aE,zj,zC h];have:l[i]?=some l[i]:=cX O;rw[this];simp;omega
 rcases kb i b with h'|h'
 ·rw[zr,zm aE,zd aE];have:l[i]?=some l[i]:=cX O;rw[this];simp[mR,h,h'];omega
 ·rw[zm aE];have e:i-(l.take a++List.replicate (b-a) v).length=i-b:=by simp;omega
  rw[e,kQ,show b+(i-b)=i by omega];cases l[i]?<;>simp;omega
def tx (l:List Nat)(a b v:Nat):Nat:=((l.drop a).take (b-a)).count v
end Go.Ar
namespace Go.Bu
def full (S:Nat->Bool)(k q:Nat):Bool:=(List.range (2^k)).all λi=>S (q*2^k+i)
def can (S:Nat->Bool)(k q:Nat):Bool:=full S k q && !full S (k+1) (q/2)
theorem Da {k q i:Nat}(hi:i<2^k):(q*2^k+i)/2^k=q:=by
 rw[Nat.add_comm,Nat.add_mul_div_right _ _ (kL k),Nat.div_eq_of_lt hi,zH]
theorem GF {k q p:Nat}(h:p/2^k=q):p=q*2^k+p%2^k:=by
 rw[←h,Nat.mul_comm];exact(Nat.div_add_mod p (2^k)).symm
theorem Qp {k q p:Nat}:p/2^k=q↔q*2^k<=p/\p<q*2^k+2^k:=by
 have a:=kL k;constructor
 ·intro h;have:=GF h;have b:=xf p a;omega
 ·rintro⟨h1,h2⟩;have:p=q*2^k+(p-q*2^k):=by omega
  rw[this];exact Da O
theorem YL {S:Nat->Bool}{k q:Nat}:full S k q=true↔∀p,p/2^k=q->S p=true:=by
 simp only[full,kf,zh];constructor
 ·intro h p hp;have:=h (p%2^k) (xf _ (kL k))
  rwa [←GF hp]at this
 ·intro h i hi;exact h _ (Da hi)
theorem ZP {S:Nat->Bool}{k q:Nat}:can S k q=true↔full S k q=true/\¬full S (k+1) (q/2)=true:=by
 simp[can]
theorem sS {p k j:Nat}(h:k<=j):p/2^j=p/2^k/2^(j-k):=by
 rw[sI,←Nat.pow_add]
 congr 2;omega
theorem EX {S:Nat->Bool}{k j q:Nat}(h:k<=j)(hf:full S j (q/2^(j-k))=true):full S k q=true:=by
 rw[YL]at hf ⊢;intro p hp;exact hf p (by rw[sS h,hp])
theorem Ea {q k j:Nat}(h:k<j):q/2/2^(j-(k+1))=q/2^(j-k):=by
 rw[sI]
 congr 1
 rw[←Nat.pow_succ']
 congr 1;omega
theorem Kc {S:Nat->Bool}{k j q r p:Nat}(hk:can S k q=true)(hj:full S j r=true)(hp:p/2^k=q)(hr:p/2^j=r)(h:k<j):False:=by
 rw[ZP]at hk;refine hk.2 (EX (j:=j) O ?_);rw[Ea h,←hp,←sS (sC h),hr];exact hj
theorem Jt {S:Nat->Bool}{k j q r p:Nat}(hk:can S k q=true)(hj:can S j r=true)(hp:p/2^k=q)(hr:p/2^j=r):k=j/\q=r:=by
 rcases qi k j with h|h|h
 ·exact(Kc hk (ZP.1 hj).1 hp hr h).elim
 ·subst h;exact⟨rfl,hp.symm.trans hr⟩
 ·exact(Kc hj (ZP.1 hk).1 hr hp h).elim
def Bounded (S:Nat->Bool)(n:Nat):Prop:=∀p,S p=true->p<n
theorem ZZ {S:Nat->Bool}{n k q:Nat}(hb:Bounded S n)(h:full S k q=true):q*2^k+2^k<=n:=by
 rw[YL]at h;have a:=kL k;have:=hb _ (h (q*2^k+(2^k-1)) (Da O));omega
theorem RG {S:Nat->Bool}{p:Nat}:full S 0 p=S p:=by simp[full]
theorem UT {S:Nat->Bool}{n p:Nat}(hb:Bounded S n)(hp:S p=true):∃k,can S k (p/2^k)=true:=by
 apply Classical.byContradiction;intro hno;have all:∀k,full S k (p/2^k)=true:=by
  intro k
  induction k with
  | zero=>simpa[RG]using hp
  | succ k ih=>
   apply Classical.byContradiction;intro hn;refine hno ⟨k,ZP.2 ⟨ih,?_⟩⟩;rw[sI,←mQ];exact hn
 have:=ZZ hb (all n);have:=@Nat.lt_two_pow_self n;omega
theorem Ua {S:Nat->Bool}{k q p:Nat}(h:can S k q=true)(hp:p/2^k=q):S p=true:=YL.1 (ZP.1 h).1 p hp
def del (S:Nat->Bool)(k q:Nat):Nat->Bool:=λp=>S p && !(p/2^k==q)
def ins (S:Nat->Bool)(k q:Nat):Nat->Bool:=λp=>S p||p/2^k==q
theorem VR {S:Nat->Bool}{k q p:Nat}:del S k q p=true↔S p=true/\p/2^k≠q:=by simp[del]
theorem VX {S:Nat->Bool}{k q p:Nat}:ins S k q p=true↔S p=true\/p/2^k=q:=by simp[ins]
theorem Vd (k q:Nat):(q*2^k)/2^k=q:=AK _ (kL k)
theorem BR {S:Nat->Bool}{k q j r:Nat}(hc:can S k q=true):can (del S k q) j r=true↔can S j r=true/\¬(j=k/\r=q):=by
 constructor
 ·intro h;obtain⟨i,s⟩:=ZP.1 h;rw[YL]at i;have u:full S j r=true:=YL.2 λp b=>(VR.1 (i p b)).1;refine⟨ZP.2 ⟨u,λg=>s (YL.2 λp b=>?_)⟩,?_⟩
  ·refine VR.2 ⟨YL.1 g p b,λd=>?_⟩;rcases kb k (j+1)with m|m
   ·exact Kc hc g d b m
   ·-- the greater Zx lies in the block
    have a:=Vd j r;have x:=(VR.1 (i _ a)).2;apply x;rw[sS (show j+1<=k by omega)];have e:r*2^j/2^(j+1)=r/2:=by
     rw[mQ,←sI,a]
    rw[e,←b,←sS (show j+1<=k by omega),d]
  ·rintro⟨rfl,rfl⟩;exact(VR.1 (i _ (Vd _ _))).2 (Vd _ _)
 ·rintro⟨h,hne⟩;obtain⟨i,s⟩:=ZP.1 h;refine ZP.2 ⟨YL.2 λp b=>VR.2 ⟨YL.1 i p b,λd=>hne ?_⟩,λg=>s (YL.2 λp b=>(VR.1 (YL.1 g p b)).1)⟩;obtain⟨m,w⟩:=Jt h hc b d;exact⟨m,w⟩
theorem Am {S:Nat->Bool}{k q j r:Nat}(hd:∀p,p/2^k=q->S p=false)(hup:¬full (ins S k q) (k+1) (q/2)=true) :
 can (ins S k q) j r=true↔can S j r=true\/(j=k/\r=q):=by
 have g:can (ins S k q) k q=true:=ZP.2 ⟨YL.2 λp d=>VX.2 (.inr d),hup⟩;constructor
 ·intro h;by_cases he:j=k/\r=q
  ·exact .inr he
  left;obtain⟨i,m⟩:=ZP.1 h;refine ZP.2 ⟨YL.2 λp d=>?_,λb=>m (YL.2 λp d=>VX.2 (.inl (YL.1 b p d)))⟩;rcases VX.1 (YL.1 i p d)with h1|h1
  ·exact h1
  ·exact(he (Jt h g d h1)).elim
 ·rintro(h|⟨rfl,rfl⟩)
  ·obtain⟨i,m⟩:=ZP.1 h;refine ZP.2 ⟨YL.2 λp d=>VX.2 (.inl (YL.1 i p d)),λb=>m (YL.2 λp d=>?_)⟩;rcases VX.1 (YL.1 b p d)with h1|h1
   ·exact h1
   ·rcases kb k (j+1)with h2|h2
    ·refine(hup (EX (j:=j+1) O ?_)).elim;have e:q/2^(j+1-k)=r/2:=by rw[←h1,←sS (show k<=j+1 by omega),d]
     rw[Ea h2,e];exact b
    ·have a:=Vd j r;have s:=YL.1 i _ a;have e:r*2^j/2^(j+1)=r/2:=by
      rw[mQ,←sI,a]
     have:r*2^j/2^k=q:=by
      rw[sS h2,e,←d,←sS h2,h1]
     rw[hd _ this]at s;cases s
  ·exact g
def ic (q:Nat):Nat:=if q%2=0 then q+1 else q-1
theorem EP (q:Nat):ic q/2=q/2:=by unfold ic;split<;>omega
theorem SD (q:Nat):ic q≠q:=by unfold ic;split<;>omega
theorem ON {q r:Nat}(h:r/2=q/2):r=q\/r=ic q:=by unfold ic;split<;>omega
theorem HP {k q p:Nat}:p/2^(k+1)=q/2↔p/2^k=q\/p/2^k=ic q:=by
 rw[mQ,←sI];constructor
 ·intro h;exact ON h
 ·rintro(h|h)<;>rw[h]
  exact EP q
theorem JV {T:Nat->Bool}{k q:Nat}(hd:∀p,p/2^k=q->T p=false)(hm:¬can T k (ic q)=true):¬full (ins T k q) (k+1) (q/2)=true:=by
 intro hup;have a:full T k (ic q)=true:=YL.2 λp b=>by
  rcases VX.1 (YL.1 hup p (HP.2 (.inr b)))with h|h
  ·exact h
  ·exact(SD q (b.symm.trans h)).elim
 have:full T (k+1) (ic q/2)=true:=Classical.byContradiction λh=>hm (ZP.2 ⟨a,h⟩);rw[EP]at this;have d:=YL.1 this (q*2^k) (HP.2 (.inl (Vd k q)));rw[hd _ (Vd k q)]at d;cases d
def dE (S:Nat->Bool)(a b:Nat):Nat->Bool:=λp=>S p||(decide (a<=p)&&decide (p<b))
def take (S:Nat->Bool)(a b:Nat):Nat->Bool:=λp=>S p && !(decide (a<=p)&&decide (p<b))
theorem KI {S:Nat->Bool}{a b p:Nat}:dE S a b p=true↔S p=true\/(a<=p/\p<b):=by simp[dE]
theorem Ve {S:Nat->Bool}{a b p:Nat}:take S a b p=true↔S p=true/\¬(a<=p/\p<b):=by
 simp[take];intro _;omega
theorem tF {S T:Nat->Bool}(h:∀p,S p=true↔T p=true):S=T:=by
 funext p
 have:=h p;cases hs:S p<;>cases ht:T p<;>simp_all
theorem JW (S:Nat->Bool)(k q:Nat):ins S k q=dE S (q*2^k) (q*2^k+2^k):=
 tF λp=>by rw[VX,KI,Qp]
theorem Ng {S:Nat->Bool}{a b c:Nat}(h1:a<=b)(h2:b<=c):dE (dE S a b) b c=dE S a c:=
 tF λp=>by simp only[KI];cases S p<;>simp<;>omega
theorem MT (S:Nat->Bool)(a:Nat):dE S a a=S:=tF λp=>by simp only[KI];cases S p<;>simp<;>omega
theorem Pr (S:Nat->Bool)(a:Nat):take S a a=S:=tF λp=>by simp only[Ve];cases S p<;>simp<;>omega
def many (n:Nat)(S:Nat->Bool)(k:Nat):Nat:=(List.range n).countP (can S k)
def Β (S:Nat->Bool)(K p:Nat):Bool:=(List.range K).any λk=>can S k (p/2^k)
end Go.Bu
namespace Go.Vc
open Go
abbrev Hp:=Array Obj
abbrev _root_.aN:=Int->Hp->Prop
abbrev _root_.aO:=Bool->Hp->Prop
abbrev _root_.aP:=Hp->Prop
structure Sl where
 a:Option Addr
 len:Nat
 cap:Nat
structure Fv where
 f:Nat
 first:Array Value
 captured:Array Value
inductive CK where
 | i (k:IntKind)|b|p|s|m|str|fn|raw|ag (n:Nat)|ad
 deriving DecidableEq
abbrev _root_.bO:CK:=.i .i64
@[reducible] def jn:Nat->Type
 | 0=>Unit
 | 1=>Int
 | n+2=>Int×jn (n+1)
def jn.vs:(n:Nat)->jn n->List Value
 | 0,_=>[]
 | 1,x=>[.int .i64 x]
 | n+2,x=>.int .i64 x.1::jn.vs (n+1) x.2
@[reducible] def CK.T:CK->Type
 | .i _=>Int
 | .b=>Bool
 | .p=>Option Addr
 | .s=>Sl
 | .m=>Option Nat
 | .str=>ByteArray
 | .fn=>Fv
 | .raw=>Value
 | .ag n=>jn n
 | .ad=>Addr
def CK.v:(c:CK)->c.T->Value
 | .i k,y=>.int k y
 | .b,x=>.bool x
 | .p,y=>.pointer y
 | .s,y=>.slice y.a y.len y.cap
 | .m,y=>.map y
 | .str,x=>.string x
 | .fn,x=>.func (.func x.f) x.first x.captured
 | .raw,y=>y
 | .ag n,y=>.agg (jn.vs n y).toArray
 | .ad,y=>.pointer (some y)
inductive SK where
 | one (c:CK)
 | agg (cs:List CK)
def SK.ks:SK->List CK
 | .one c=>[c]
 | .agg cs=>cs
def eU:List SK->List CK
 | []=>[]
 | s::ss=>s.ks++eU ss
@[reducible] def eL:List CK->Type
 | []=>Hp->Prop
 | c::cs=>c.T->eL cs
@[reducible] def oJ:List CK->Type
 | []=>Hp->Nat
 | c::cs=>c.T->oJ cs
def Sat:(ks:List CK)->eL ks->List Value->Hp->Prop
 | [],R,[],h=>R h
 | c::cs,R,v::vs,h=>∃x:c.T,v=c.v x/\Sat cs (R x) vs h
 | _,_,_,_=>False
def eL.le:(ks:List CK)->eL ks->eL ks->Prop
 | [],R,R'=>∀h,R h->R' h
 | c::cs,R,R'=>∀x:c.T,eL.le cs (R x) (R' x)
def lam:(ks:List CK)->(List Value->Hp->Prop)->eL ks
 | [],K=>K []
 | c::cs,K=>λx=>lam cs λvs=>K (c.v x::vs)
def xz:(n:Nat)->List Value->(jn n->Prop)->Prop
 | 0,[],K=>K ()
 | 1,[.int .i64 x],K=>K x
 | n+2,.int .i64 x::vs,K=>xz (n+1) vs λy=>K (x,y)
 | _,_,_=>False
theorem Fj:∀{n:Nat} {vs:List Value} {K:jn n->Prop},xz n vs K->∃x,vs=jn.vs n x/\K x:=by
 intro n vs K h;unfold xz at h;split at h
 ·exact⟨(),rfl,h⟩
 ·exact⟨_,rfl,h⟩
 ·obtain⟨y,rfl,a⟩:=Fj h;exact⟨_,rfl,a⟩
 ·exact h.elim
def m5:(c:CK)->Value->(c.T->Prop)->Prop
 | .i k,.int k' n,K=>if k=k' then K n else False
 | .b,.bool x,K=>K x
 | .p,.pointer a,K=>K a
 | .s,.slice a l c,K=>K ⟨a,l,c⟩
 | .m,.map r,K=>K r
 | .str,.string s,K=>K s
 | .fn,.func (.func f) x y,K=>K ⟨f,x,y⟩
 | .raw,v,K=>K v
 | .ag n,.agg cs,K=>xz n cs.toList K
 | .ad,.pointer (some a),K=>K a
 | _,_,_=>False
def sg:(ks:List CK)->eL ks->List Value->Hp->Prop
 | [],R,[],h=>R h
 | c::cs,R,v::vs,h=>m5 c v λx=>sg cs (R x) vs h
 | _,_,_,_=>False
theorem VZ {c:CK}{v:Value}{K:c.T->Prop}(h:m5 c v K):∃x,v=c.v x/\K x:=by
 cases c<;>cases v<;>simp only[m5]at h<;>try exact h.elim
 case i.int k k' n=>split at h<;>first|exact h.elim | (rename_i e;subst e;exact⟨n,rfl,h⟩)
 case fn.func f x y=>cases f<;>simp only[m5]at h<;>first|exact h.elim|exact⟨⟨_,x,y⟩,rfl,h⟩
 case b.bool x=>exact⟨x,rfl,h⟩
 case p.pointer a=>exact⟨a,rfl,h⟩
 case s.slice a l c=>exact⟨⟨a,l,c⟩,rfl,h⟩
 case m.map r=>exact⟨r,rfl,h⟩
 case str.string s=>exact⟨s,rfl,h⟩
 case ad.pointer p=>cases p<;>simp only[m5]at h<;>first|exact h.elim|exact⟨_,rfl,h⟩
 case ag.agg n cs=>obtain⟨x,e,d⟩:=Fj h;exact⟨x,by simp only[CK.v,←e],d⟩
 all_goals exact⟨_,rfl,h⟩
theorem Dv:∀(n:Nat) (x:jn n) (K:jn n->Prop),xz n (jn.vs n x) K=K x
 | 0,_,_=>rfl
 | 1,_,_=>rfl
 | n+2,x,K=>Dv (n+1) x.2 _
theorem Nb (c:CK)(x:c.T)(K:c.T->Prop):m5 c (c.v x) K=K x:=by
 cases c<;>simp[m5,CK.v]
 exact iff_of_eq (Dv _ _ _)
theorem Ha:∀{ks:List CK} {R:eL ks} {vs:List Value} {h:Hp},sg ks R vs h->Sat ks R vs h
 | [],_,[],_,h=>h
 | _::_,_,_::_,_,h=>by
  obtain⟨x,e,hx⟩:=VZ h;exact⟨x,e,Ha hx⟩
 | [],_,_::_,_,h=>h.elim
 | _::_,_,[],_,h=>h.elim
theorem Sat.mono:∀{ks:List CK} {R R':eL ks},eL.le ks R R'->∀{vs:List Value} {h:Hp},Sat ks R vs h->Sat ks R' vs h
 | [],_,_,hl,[],_,h=>hl _ h
 | _::_,_,_,hl,_::_,_,⟨x,e,h⟩=>⟨x,e,Sat.mono (hl x) h⟩
 | [],_,_,_,_::_,_,h=>h.elim
 | _::_,_,_,_,[],_,h=>h.elim
theorem Uj:∀{ks:List CK} {K:List Value->Hp->Prop} {vs:List Value} {h:Hp},Sat ks (lam ks K) vs h->K vs h
 | [],_,[],_,h=>h
 | _::_,K,v::vs,h,hs=>by
  obtain⟨x,rfl,h'⟩:=hs;exact Uj (K:=λvs=>K (CK.v _ x::vs)) h'
 | [],_,_::_,_,h=>h.elim
 | _::_,_,[],_,h=>h.elim
abbrev Env:=Nat->Option Value
def Env.nil:Env:=λ_=>none
def Env.put (ρ:Env)(d:Nat)(v:Value):Env:=λi=>bif Nat.beq i d then some v else ρ i
def Env.ig (ρ:Env):Option Nat->Value->Env
 | some d,v=>ρ.put d v
 | none,_=>ρ
def Env.dW (ρ:Env)(ds:List Nat):Env:=λi=>bif ds.contains i then none else ρ i
def ev (ρ:Env):Operand->Option Value
 | .tmp t=>ρ t
 | .const v=>some v
 | .global g=>some (.pointer (some ⟨g,0,none⟩))
 | .func f=>some (.func (.func f) #[] #[])
def wv (o:Option Value)(K:Value->Prop):Prop:=match o with|some v=>K v|none=>False
def pY (ρ:Env):List Operand->Option (List Value)
 | []=>some []
 | o::os=>match ev ρ o,pY ρ os with|some v,some vs=>some (v::vs)|_,_=>none
def cell (h:Hp)(a:Addr):Option Value:=
 match h[a.block]? with
 | some (.cells c _ _)=>if a.spot.isSome then none else c[a.off]?
 | _=>none
def od (h:Hp)(a:Addr):Bool:=
 match h[a.block]? with
 | some (.cells _ _ (lo,hi))=>lo<=a.off&&a.off<hi
 | _=>false
def jX (h:Hp)(a:Addr)(v:Value):Hp:=
 h.modify a.block fun
  | .cells c elem frozen=>.cells (if a.spot.isSome then c else c.setIfInBounds a.off v) elem frozen
  | o=>o
def gJ (k:IntKind)(a:Addr)(h:Hp)(K:Int->Prop):Prop:=∃n,cell h a=some (.int k n)/\K n
def l5 (a:Addr)(h:Hp)(K:Bool->Prop):Prop:=∃n,cell h a=some (.bool n)/\K n
def fS (a:Addr)(h:Hp)(K:Option Addr->Prop):Prop:=∃n,cell h a=some (.pointer n)/\K n
def ju (a:Addr)(h:Hp)(K:Sl->Prop):Prop:=∃n:Sl,cell h a=some (.slice n.a n.len n.cap)/\K n
def lr (a:Addr)(h:Hp)(K:Option Nat->Prop):Prop:=∃n,cell h a=some (.map n)/\K n
def AN (a:Addr)(h:Hp)(K:ByteArray->Prop):Prop:=∃n,cell h a=some (.string n)/\K n
def Of (a:Addr)(h:Hp)(K:Fv->Prop):Prop:=∃n:Fv,cell h a=some (.func (.func n.f) n.first n.captured)/\K n
def yG (a:Addr)(h:Hp)(K:Value->Prop):Prop:=∃n,cell h a=some n/\K n
def Lj (n:Nat)(a:Addr)(h:Hp)(K:jn n->Prop):Prop:=∃x,cell h a=some (CK.v (.ag n) x)/\K x
def BS (a:Addr)(h:Hp)(K:Addr->Prop):Prop:=∃x,cell h a=some (.pointer (some x))/\K x
def yQ:(c:CK)->Addr->Hp->(c.T->Prop)->Prop
 | .i k,a,h,K=>gJ k a h K
 | .b,a,h,K=>l5 a h K
 | .p,a,h,K=>fS a h K
 | .s,a,h,K=>ju a h K
 | .m,a,h,K=>lr a h K
 | .str,a,h,K=>AN a h K
 | .fn,a,h,K=>Of a h K
 | .raw,a,h,K=>yG a h K
 | .ag n,a,h,K=>Lj n a h K
 | .ad,a,h,K=>BS a h K
def np:List CK->Addr->Nat->Hp->(List Value->Prop)->Prop
 | [],_,_,_,K=>K []
 | c::cs,a,i,h,K=>yQ c (a.add i) h λx=>np cs a (i+1) h λvs=>K (c.v x::vs)
def j8 (v:Value)(t:TypeId)(vs zs:List Value)(b:Bool):Prop:=match b with
 | true=>v=.iface t (.agg vs.toArray)
 | false=>vs=zs/\(v=.nilIface\/∃t' u,v=.iface t' u/\t'≠t)
def wj (v:Value)(t:TypeId)(zs:List Value):List CK->List Value->(List Value->Bool->Prop)->Prop
 | [],acc,K=>∃b:Bool,j8 v t acc zs b/\K acc b
 | c::cs,acc,K=>∃x:c.T,wj v t zs cs (acc++[c.v x]) K
theorem wj.out {v:Value}{t:TypeId}{zs:List Value}:∀{cs:List CK} {acc:List Value} {K:List Value->Bool->Prop},wj v t zs cs acc K->∃vs b,j8 v t vs zs b/\K vs b
 | [],acc,K,⟨b,h1,h2⟩=>⟨acc,b,h1,h2⟩
 | c::cs,acc,K,⟨x,h⟩=>wj.out h
def iS (v:Value):Prop:=v=.nilIface\/∃t u,v=.iface t u
def kx:Value->Bool
 | .nilIface=>true
 | _=>false
def O1 (v:Value)(A:Prop):Prop:=match v with
 | .agg _=>False
 | .tuple _=>False
 | _=>A
def yB:List Value->Prop->Prop
 | [],A=>A
 | v::vs,A=>O1 v (yB vs A)
def bX (p:Option Addr)(K:Addr->Prop):Prop:=∃a,p=some a/\K a
def Ar (k:IntKind)(e:Int)(K:Int->Prop):Prop:=K (k.wrap e)
def Nz (y:Int)(A:Prop):Prop:=y≠0/\A
def Nn (y:Int)(A:Prop):Prop:=0<=y/\A
def Ix (base:Option Addr)(len:Nat)(i:Int)(sz:Nat)(K:Addr->Prop):Prop:=∃a,base=some a/\0<=i/\i<(len:Int)/\K (a.add (i.toNat*sz))
def nN (a:Addr)(len:Nat)(i:Int)(sz:Nat)(K:Addr->Prop):Prop:=0<=i/\i<(len:Int)/\K (a.add (i.toNat*sz))
def OP (s:ByteArray)(i:Int)(K:Int->Prop):Prop:=∃b,0<=i/\s[i.toNat]?=some b/\K (b.toNat:Int)
def If (b:Bool)(A B:Prop):Prop:=match b with
 | true=>A
 | false=>B
theorem If.t {b:Bool}{A B:Prop}(h:If b A B)(e:b=true):A:=by subst e;exact h
theorem If.f {b:Bool}{A B:Prop}(h:If b A B)(e:b=false):B:=by subst e;exact h
theorem If.mk {b:Bool}{A B:Prop}(h1:b=true->A)(h2:b=false->B):If b A B:=by cases b;exact h2 rfl;exact h1 rfl
def Nw (o:Obj)(h:Hp)(K:Addr->Hp->Prop):Prop:=K ⟨h.size,0,none⟩ (h.push o)
def dU (a:Addr)(v:Value)(h:Hp)(K:aP):Prop:=(cell h a).isSome=true/\od h a=false/\K (jX h a v)
def qc (a:Addr)(h:Hp):List Value->Nat->(Hp->Prop)->Prop
 | [],_,K=>K h
 | v::vs,i,K=>dU (a.add i) v h λh'=>qc a h' vs (i+1) K
def fo (s:Sl)(sz:Nat)(lo hi mx:Int)(K:Sl->Prop):Prop:=
 0<=lo/\lo<=hi/\hi<=mx/\mx<=(s.cap:Int)/\K ⟨if mx.toNat=lo.toNat then s.a else s.a.map (·.add (lo.toNat*sz)),hi.toNat-lo.toNat,mx.toNat-lo.toNat⟩
def dJ (h:Hp)(r:Nat)(k:IntKind)(c:CK)(l:List (Int×c.T)):Prop:=
 ∃es clk,h[r]?=some (.map es clk)/\es.toList.map (λe=>(e.key,e.val))=l.map (λx=>(Value.int k x.1,c.v x.2)) ∧
  (l.map (·.1)).Nodup/\(es.toList.map (·.born)).Pairwise (· < ·)/\∀e∈es.toList,e.born<clk
def jo (h:Hp)(m:Option Nat)(k:IntKind)(c:CK)(l:List (Int×c.T)):Prop:=
 match m with
 | none=>l=[]
 | some r=>dJ h r k c l
def bU {α:Type}(l:List (Int×α))(n:Int):Option α:=(l.find? λx=>x.1==n).map (·.2)
def dB {α:Type}(l:List (Int×α))(n:Int)(v:α):List (Int×α):=
 if l.any (λx=>x.1==n)then l.map (λx=>if x.1==n then(n,v)else x)else l++[(n,v)]
def cT {α:Type}(l:List (Int×α))(n:Int):List (Int×α):=l.filter λx=>!(x.1==n)
def QR (h h':Hp)(r:Nat):Prop:=h'.size=h.size/\∀b,b≠r->h'[b]?=h[b]?
def Lk (k:IntKind)(c:CK)(m:Option Nat)(n:Int)(h:Hp)(K:Option c.T->Prop):Prop:=∃l,jo h m k c l/\K (bU l n)
def ru (k:IntKind)(c:CK)(m:Option Nat)(h:Hp)(K:Int->Prop):Prop:=∃l,jo h m k c l/\K (l.length:Int)
def kH (k:IntKind)(c:CK)(m:Option Nat)(n:Int)(x:c.T)(h:Hp)(K:aP):Prop:=
 ∃r l,m=some r/\dJ h r k c l/\∀h',QR h h' r->dJ h' r k c (dB l n x)->K h'
def lG (k:IntKind)(c:CK)(m:Option Nat)(n:Int)(h:Hp)(K:aP):Prop:=
 ∃l,jo h m k c l/\∀h',(∀r,m=some r->QR h h' r)->(m=none->h'=h)->jo h' m k c (cT l n)->K h'
def It (h:Hp)(r:Nat)(k:IntKind)(c:CK)(m:Option Nat)(l todo:List (Int×c.T))(cur:Option (Int×c.T)):Prop:=
 match m with
 | none=>l=[]/\todo=[]/\cur=none/\∃s q y,h[r]?=some (.mapIter none s q y)
 | some b=>∃es clk seen,h[r]?=some (.mapIter (some b) clk seen clk)/\h[b]?=some (.map es clk)/\es.toList.map (λe=>(e.key,e.val))=l.map (λx=>(Value.int k x.1,c.v x.2)) ∧
  (l.map (·.1)).Nodup/\(es.toList.map (·.born)).Pairwise (· < ·)/\(∀e∈es.toList,e.born<clk) ∧
  (es.toList.filter λe=>!seen.contains e.born).map (λe=>(e.key,e.val))=todo.map (λx=>(Value.int k x.1,c.v x.2)) ∧
  (∀x,cur=some x->∃e∈es.toList,seen.back?=some e.born/\e.key=.int k x.1/\e.val=c.v x.2)
def oW (k:IntKind)(c:CK)(m:Option Nat)(h:Hp)(K:Addr->Hp->Prop):Prop:=
 ∃l,jo h m k c l/\∀h',h'.size=h.size+1->(∀b,b<h.size->h'[b]?=h[b]?)->It h' h.size k c m l l none->K ⟨h.size,0,none⟩ h'
def pG (k:IntKind)(c:CK)(a:Addr)(h:Hp)(A:Prop)(B:Int->c.T->Hp->Prop):Prop:=
 a.off=0/\∃m l todo cur,It h a.block k c m l todo cur/\(todo=[]->A) ∧
  ∀n x,(n,x)∈todo->∀h',QR h h' a.block->It h' a.block k c m l (todo.filter λy=>!(y.1==n)) (some (n,x))->B n x h'
def oK (k:IntKind)(c:CK)(a:Addr)(h:Hp)(K:Int->c.T->Prop):Prop:=
 a.off=0/\∃m l todo n x,It h a.block k c m l todo (some (n,x))/\K n x
def dR:Value->Bool
 | .agg _=>false
 | .tuple _=>false
 | _=>true
def Rd (h:Hp)(a:Option Addr)(xs:List Value):Prop:=
 match a with
 | none=>xs=[]
 | some a=>∀j v,xs[j]?=some v->cell h (a.add j)=some v
def DN (s:Sl)(h:Hp)(K:ByteArray->Prop):Prop:=∃bs:List Int,bs.length=s.len/\Rd h s.a (bs.map (.int .u8))/\K ⟨(bs.map λn=>UInt8.ofNat n.toNat).toArray⟩
def App (s:Sl)(sz bytes:Nat)(e:Nat)(zs:List Value)(x:Sl)(h:Hp)(K:Sl->Hp->Prop):Prop:=
 ∃xs ys,xs.length=s.len*sz/\ys.length=x.len*sz/\Rd h s.a xs/\Rd h x.a ys/\(∀v∈ys,dR v=true)/\(s.len+x.len)*bytes<=2^46/\s.len+x.len<=2^62 ∧
  (s.len+x.len<=s.cap->match s.a with
   | some a=>qc (a.add (s.len*sz)) h ys 0 λh'=>K ⟨s.a,s.len+x.len,s.cap⟩ h'
   | none=>K ⟨none,s.len+x.len,s.cap⟩ h) ∧
  (¬s.len+x.len<=s.cap->∀c,s.len+x.len<=c->Nw (.cells (xs++ys++(List.replicate (c-(s.len+x.len)) zs).flatten).toArray e) h λa h'=>K ⟨some a,s.len+x.len,c⟩ h')
def sN (s:Sl)(sz bytes:Nat)(e:Nat)(zs:List Value)(n:Int)(h:Hp)(K:Sl->Hp->Prop):Prop:=
 0<=n/\∃xs,xs.length=s.len*sz/\Rd h s.a xs/\(∀v∈zs,dR v=true)/\(s.len+n.toNat)*bytes<=2^46/\s.len+n.toNat<=2^62/\(n.toNat:Int)*bytes<=2^46 ∧
  (s.len+n.toNat<=s.cap->match s.a with
   | some a=>qc (a.add (s.len*sz)) h (List.replicate n.toNat zs).flatten 0 λh'=>K ⟨s.a,s.len+n.toNat,s.cap⟩ h'
   | none=>K ⟨none,s.len+n.toNat,s.cap⟩ h) ∧
  (¬s.len+n.toNat<=s.cap->∀c,s.len+n.toNat<=c->Nw (.cells (xs++(List.replicate n.toNat zs).flatten++(List.replicate (c-(s.len+n.toNat)) zs).flatten).toArray e) h λa h'=>K ⟨some a,s.len+n.toNat,c⟩ h')
def rR (d:Sl)(sz:Nat)(s:Sl)(h:Hp)(K:aN):Prop:=
 ∃xs,xs.length=min s.len d.len*sz/\Rd h s.a xs/\(∀v∈xs,dR v=true)/\match d.a with
  | some a=>qc a h xs 0 λh'=>K ((min s.len d.len:Nat):Int) h'
  | none=>K ((min s.len d.len:Nat):Int) h
def AV (s:Sl)(zs:List Value)(h:Hp)(K:aP):Prop:=
 (∀v∈zs,dR v=true)/\match s.a with
  | some a=>qc a h (List.replicate s.len zs).flatten 0 K
  | none=>K h
def Mk (n c:Int)(bytes:Nat)(e:Nat)(zs:List Value)(h:Hp)(K:Sl->Hp->Prop):Prop:=
 0<=n/\n<=c/\(bytes:Int)*c<=2^46/\c<2^62/\Nw (.cells (List.replicate c.toNat zs).flatten.toArray e) h λa h'=>K ⟨some a,n.toNat,c.toNat⟩ h'
def Xt (w w':World):Prop:=w'.os=w.os/\w'.tape=w.tape/\w'.output=w.output/\w.heap.size<=w'.heap.size
def qj:List SK->List Value->List Value
 | [],_=>[]
 | .one _::ss,v::vs=>v::qj ss vs
 | .one _::ss,[]=>undef::qj ss []
 | .agg cs::ss,vs=>.agg (vs.take cs.length).toArray::qj ss (vs.drop cs.length)
def pack (rs:List SK)(vs:List Value):Value:=
 match qj rs vs with
 | [v]=>v
 | l=>.tuple l.toArray
def Wi (P:Program)(f:Nat)(args:Array Value)(rs:List SK)(h:Hp)(R:eL (eU rs)):Prop:=
 ∀w:World,w.heap=h->Calls P f args w λe w'=>Xt w w'/\∃vs,e=.returned (pack rs vs)/\Sat (eU rs) R vs w'.heap
theorem Wi.mono {P:Program}{f:Nat}{args:Array Value}{rs:List SK}{h:Hp}{R R':eL (eU rs)}(c:Wi P f args rs h R)(hl:eL.le (eU rs) R R'):Wi P f args rs h R':=
 λw a=>(c w a).mono λ_ _ ⟨b,vs,e,s⟩=>⟨b,vs,e,s.mono hl⟩
def iV (P:Program)(v:Value)(name:String)(args:List Value)(rs:List SK)(h:Hp)(R:eL (eU rs)):Prop:=
 ∃t u f,v=.iface t u/\(∀w,(method (P.types.size+Made.depth) t u name).run P w=.ok (f,u) w)/\(∀xs w,(callFunc f xs).run P w=.ok (.enter f xs) w)/\Wi P f (u::args).toArray rs h R
def EK (P:Program)(fv:Fv)(args:List Value)(rs:List SK)(h:Hp)(R:eL (eU rs)):Prop:=
 Wi P fv.f (fv.first++args.toArray++fv.captured) rs h R
abbrev SK.I:SK:=.one bO
abbrev _root_.Go.Value.I (x:Int):Value:=.int .i64 x
def Jb:TypeDesc->Option CK
 | .bool=>some .b
 | .int k=>some (.i k)
 | .string=>some .str
 | .pointer _=>some .p
 | .slice _=>some .s
 | .map _ _=>some .m
 | .func _ _ _=>some .fn
 | .interface _=>some .raw
 | _=>none
mutual
def CW (P:Program):Nat->TypeId->Option (List CK)
 | 0,_=>none
 | n+1,t=>
  match P.underlying t with
  | some (.struct fs)=>Dy P n fs.toList
  | some (.array m e)=>(CW P n e).map λl=>(List.replicate m l).flatten
  | some d=>(Jb d).map λc=>[c]
  | none=>none
def Dy (P:Program):Nat->List Field->Option (List CK)
 | 0,_=>none
 | _+1,[]=>some []
 | n+1,f::fs=>match CW P n f.type,Dy P n fs with
  | some a,some b=>some (a++b)
  | _,_=>none
end
def NJ:SK->SK
 | .agg cs=>bif cs.all (· == .i .i64)then .one (.ag cs.length)else .agg cs
 | s=>s
def UK:TypeDesc->Bool
 | .struct _ | .array _ _=>true
 | _=>false
def j0 (P:Program)(t:TypeId):Option SK:=
 match P.underlying t with
 | some d=>bif UK d then(CW P 24 t).map .agg else(Jb d).map .one
 | none=>none
def oe (P:Program)(t:TypeId):Option SK:=(j0 P t).map NJ
def fQ (b:Bool)(A:Prop):Prop:=match b with|true=>A|false=>False
theorem WK {b:Bool}{A:Prop}:fQ b A↔b=true/\A:=by cases b<;>simp[fQ]
def pS (op:BinOp)(k:IntKind)(x y:Int)(K:Value->Prop):Prop:=
 match op with
 | .add=>Ar k (x+y) λz=>K (.int k z)
 | .sub=>Ar k (x-y) λz=>K (.int k z)
 | .mul=>Ar k (x*y) λz=>K (.int k z)
 | .quo=>Nz y (Ar k (x.tdiv y) λz=>K (.int k z))
 | .rem=>Nz y (K (.int k (x.tmod y)))
 | .and=>K (.int k (bits .and k x y))
 | .or=>K (.int k (bits .or k x y))
 | .xor=>K (.int k (bits .xor k x y))
 | .andNot=>K (.int k (bits .andNot k x y))
 | .shl=>Nn y (Ar k (x*2^(min y.toNat k.bits)) λz=>K (.int k z))
 | .shr=>Nn y (K (.int k (x.fdiv (2^(min y.toNat k.bits)))))
 | .eql=>K (.bool (x==y))
 | .neq=>K (.bool (x != y))
 | .lss=>K (.bool (decide (x<y)))
 | .leq=>K (.bool (decide (x<=y)))
 | .gtr=>K (.bool (decide (x>y)))
 | .geq=>K (.bool (decide (x≥y)))
def nf (op:BinOp)(b:Bool)(K:Value->Prop):Prop:=
 match op with
 | .eql=>K (.bool b)
 | .neq=>K (.bool (!b))
 | _=>False
def lS (P:Program)(op:BinOp)(t:TypeId)(x y:Value)(K:Value->Prop):Prop:=
 match P.underlying t,x,y with
 | some (.pointer _),.pointer p,.pointer none=>nf op p.isNone K
 | some (.slice _),.slice p _ _,.slice none 0 0=>nf op p.isNone K
 | some (.map _ _),.map p,.map none=>nf op p.isNone K
 | some (.interface _),x,.nilIface=>iS x/\nf op (kx x) K
 | _,_,_=>False
def lK (P:Program)(op:BinOp)(t:TypeId)(x y:Value)(K:Value->Prop):Prop:=
 match x,y with
 | .int k a,.int k' b=>if k=k' then pS op k a b K else(match op with | .shl=>pS .shl k a b K | .shr=>pS .shr k a b K|_=>False)
 | .bool a,.bool b=>match P.underlying t with
  | some .bool=>nf op (a==b) K
  | _=>False
 | .string a,.string b=>match op with
  | .eql=>K (.bool (a.toList==b.toList))
  | .neq=>K (.bool (!(a.toList==b.toList)))
  | _=>False
 | _,_=>False
def oB (P:Program)(xs ys:List Value):List Field->Option Bool
 | []=>some true
 | f::fs=>bif f.name == "_" then none else
  match P.underlying f.type,xs[f.offset]?,ys[f.offset]?,oB P xs ys fs with
  | some (.int _),some (.int k a),some (.int k' b),some r=>if k=k' then some ((a==b)&&r)else none
  | some .bool,some (.bool a),some (.bool b),some r=>some ((a==b)&&r)
  | _,_,_,_=>none
def pw (P:Program)(e:TypeId)(xs ys:List Value):List Nat->Option Bool
 | []=>some true
 | i::is=>match P.underlying e,xs[i]?,ys[i]?,pw P e xs ys is with
  | some (.int _),some (.int k a),some (.int k' b),some r=>if k=k' then some ((a==b)&&r)else none
  | some (.pointer _),some (.pointer p),some (.pointer none),some r=>some (p.isNone&&r)
  | _,_,_,_=>none
def nk (P:Program)(op:BinOp)(t:TypeId)(xs ys:List Value)(K:Value->Prop):Prop:=
 match P.underlying t with
 | some (.struct fs)=>fQ (!P.stoodInHeld t && !P.eqGuardType P.depth t) (match oB P xs ys fs.toList with
  | some b=>nf op b K
  | none=>False)
 | some (.array n e)=>fQ (!P.eqGuardType P.depth t&&((P.info? e).isSome&&P.cellsOf e==1)) (match pw P e xs ys (List.range n)with
  | some b=>nf op b K
  | none=>False)
 | _=>False
def td:Operand->Bool
 | .const (.pointer none)=>true
 | .const (.slice none 0 0)=>true
 | .const (.map none)=>true
 | .const .nilIface=>true
 | _=>false
def xX (h:Hp)(p q:Option Addr)(K:Bool->Prop):Prop:=match p,q with
 | some a,some b=>if a=b then K true else((∃ca ta,h[a.block]?=some (.cells ca ta (0,0)))/\∃cb tb,h[b.block]?=some (.cells cb tb (0,0)))/\K false
 | none,q=>K q.isNone
 | some _,none=>K false
def qz (P:Program)(op:BinOp)(t:TypeId)(p q:Option Addr)(h:Hp)(K:Value->Prop):Prop:=
 match P.underlying t with
 | some (.pointer e)=>fQ ((P.info? e).isSome&&P.cellsOf e != 0) (match op with
  | .eql=>xX h p q λb=>K (.bool b)
  | .neq=>xX h p q λb=>K (.bool (!b))
  | _=>False)
 | _=>False
def vU (P:Program)(op:BinOp)(t:TypeId)(y:Operand)(vx vy:Value)(h:Hp)(K:Value->Prop):Prop:=
 bif td y then lS P op t vx vy K else match vx,vy with
 | .agg xs,.agg ys=>nk P op t xs.toList ys.toList K
 | .pointer p,.pointer q=>qz P op t p q h K
 | vx,vy=>lK P op t vx vy K
def nA (P:Program)(s f:Nat)(K:Field->Prop):Prop:=
 match P.underlying s with
 | some (.struct fs)=>match fs[f]? with
  | some fd=>K fd
  | none=>False
 | _=>False
def l7 (P:Program)(t:TypeId)(x:Value)(h:Hp)(K:Value->Prop):Prop:=
 match P.underlying t,x with
 | some (.slice _),.slice _ n _=>K (.int .i64 (n:Int))
 | some .string,.string s=>K (.int .i64 (s.size:Int))
 | some (.array n _),_=>K (.int .i64 (n:Int))
 | some (.map kt et),.map m=>match P.underlying kt,oe P et with
  | some (.int k),some (.one c)=>ru k c m h λz=>K (.int .i64 z)
  | _,_=>False
 | _,_=>False
def yL (P:Program)(t:TypeId)(x i:Value)(ok:Bool)(h:Hp)(K:Value->Prop):Prop:=
 match P.underlying t,x,i with
 | some (.map kt et),.map m,.int k n=>match P.underlying kt,oe P et,P.info? et with
  | some (.int k'),some (.one c),some ti=>match ti.zero with
   | some z=>if k=k' then m5 c z λz=>Lk k c m n h λo=>K (bif ok then .tuple #[c.v (o.getD z),.bool o.isSome]else c.v (o.getD z))else False
   | none=>False
  | _,_,_=>False
 | _,_,_=>False
def pc (isMax:Bool):Value->List Value->(Value->Prop)->Prop
 | v,[],K=>K v
 | .int k x,.int _ y::vs,K=>pc isMax (.int k (bif isMax then(if y>x then y else x)else(if y<x then y else x))) vs K
 | _,_,_=>False
def rY (Zx:Nat->Option (Nat×Nat))(cells:List Value):List (Nat×Value)->Option (List Value)
 | []=>some cells
 | (i,v)::rest=>
  match Zx i with
  | none=>none
  | some (off,size)=>
   if v.cells.size≠size\/off+v.cells.size>cells.length then none
   else rY Zx (cells.take off++v.cells.toList++cells.drop (off+size)) rest
def Gx (ρ:Env):List (Nat×Operand)->Option (List (Nat×Value))
 | []=>some []
 | (i,o)::os=>match ev ρ o,Gx ρ os with|some v,some vs=>some ((i,v)::vs)|_,_=>none
def Co (P:Program)(fs:Array Field)(i:Nat):Option (Nat×Nat):=match fs[i]? with
 | some f=>match P.info? f.type with
  | some ti=>some (f.offset,ti.size)
  | none=>none
 | none=>none
def vC (P:Program)(t:TypeId):Bool:=match P.underlying t with
 | some (.interface _)=>true
 | _=>false
def wI (P:Program)(fs:Array Field)(i:Nat):Bool:=match fs[i]? with
 | some f=>vC P f.type
 | none=>false
def wB (raw:Nat->Bool):List (Nat×Value)->List (Nat×Value)
 | []=>[]
 | (i,v)::ps=>(i,bif raw i then .agg #[v]else v)::wB raw ps
def lF (raw:Nat->Bool):List (Nat×Value)->Prop->Prop
 | [],A=>A
 | (i,v)::ps,A=>bif raw i then iS v/\lF raw ps A else lF raw ps A
def nL (P:Program)(t:TypeId)(ps:List (Nat×Value))(K:Value->Prop):Prop:=
 match P.info? t,P.underlying t with
 | some ti,some (.struct fs)=>match ti.zero with
  | some z=>lF (wI P fs) ps (match rY (Co P fs) z.cells.toList (wB (wI P fs) ps)with
   | some cs=>fQ (fs.toList.all λf=>(P.info? f.type).isSome) (K (.agg cs.toArray))
   | none=>False)
  | none=>False
 | some ti,some (.array _ e)=>match ti.zero,P.info? e with
  | some z,some te=>match rY (λi=>some (i*te.size,te.size)) z.cells.toList ps with
   | some cs=>K (.agg cs.toArray)
   | none=>False
  | _,_=>False
 | _,_=>False
def vj (P:Program)(t:TypeId)(cs:List Value)(off:Nat)(K:Value->Prop):Prop:=
 match P.underlying t,P.info? t with
 | some d,some ti=>bif UK d then K (.agg ((cs.drop off).take ti.size).toArray)else wv (cs[off]?) K
 | _,_=>False
def nK (P:Program)(t:TypeId)(x:Value)(lo hi mx:Option Value)(K:Value->Prop):Prop:=
 match P.underlying t,x with
 | some (.slice e),.slice a n c=>match P.info? e with
  | some ti=>
   let loV:Option Int:=match lo with|none=>some 0|some (.int .i64 z)=>some z|_=>none
   let hiV:Option Int:=match hi with|none=>some n|some (.int .i64 z)=>some z|_=>none
   let mxV:Option Int:=match mx,hi with|none,_=>some c|some (.int .i64 z),some _=>some z|_,_=>none
   match loV,hiV,mxV with
   | some l,some h,some m=>fo ⟨a,n,c⟩ ti.size l h m λs=>K (.slice s.a s.len s.cap)
   | _,_,_=>False
  | none=>False
 | _,_=>False
def uq (ρ:Env):Option Operand->Option (Option Value)
 | none=>some none
 | some o=>(ev ρ o).map some
def qK (P:Program)(o:Op)(ρ:Env)(h:Hp)(K:Value->Prop):Prop:=
 match o with
 | .move x=>wv (ev ρ x) K
 | .assign x=>wv (ev ρ x) K
 | .pick c x y=>wv (ev ρ c) λv=>match v with
  | .bool true=>wv (ev ρ x) K
  | .bool false=>wv (ev ρ y) K
  | _=>False
 | .load t a=>wv (ev ρ a) λv=>match v,j0 P t with
  | .pointer (some a),some (.one c)=>fQ (P.info? t).isSome (yQ c a h λx=>K (c.v x))
  | .pointer (some a),some (.agg cs)=>fQ (P.cellsOf t==cs.length) (fQ (P.info? t).isSome (np cs a 0 h λvs=>K (.agg vs.toArray)))
  | _,_=>False
 | .nilCheck x=>wv (ev ρ x) λv=>match v with
  | .pointer p=>bX p λa=>K (.pointer (some a))
  | .func (.func f) a b=>K (.func (.func f) a b)
  | _=>False
 | .binOp op t x y _=>wv (ev ρ x) λvx=>wv (ev ρ y) λvy=>vU P op t y vx vy h K
 | .unOp op _ x=>wv (ev ρ x) λv=>match op,v with
  | .not,.bool b=>K (.bool (!b))
  | .neg,.int k n=>Ar k (0-n) λz=>K (.int k z)
  | _,_=>False
 | .convert s d x=>wv (ev ρ x) λv=>match P.underlying s,P.underlying d,v with
  | some _,some (.int k),.int _ n=>Ar k n λz=>K (.int k z)
  | some _,some .string,.string x=>K (.string x)
  | some (.slice e),some .string,.slice a n c=>(match P.underlying e with|some (.int .u8)=>DN ⟨a,n,c⟩ h λs=>K (.string s)|_=>False)
  | _,_,_=>False
 | .fieldAddr s x f=>wv (ev ρ x) λv=>nA P s f λfd=>match v with
  | .pointer (some a)=>fQ (P.cellsOf fd.type != 0) (K (.pointer (some (a.add fd.offset))))
  | _=>False
 | .field s x f=>wv (ev ρ x) λv=>nA P s f λfd=>match v with
  | .agg cs=>vj P fd.type cs.toList fd.offset K
  | _=>False
 | .indexAddr t x i=>wv (ev ρ x) λvx=>wv (ev ρ i) λvi=>match P.underlying t,vx,vi with
  | some (.slice e),.slice b n _,.int _ i=>fQ (P.info? e).isSome (Ix b n i (P.cellsOf e) λa=>K (.pointer (some a)))
  | some (.array n e),.pointer (some a),.int _ i=>fQ (P.info? e).isSome (nN a n i (P.cellsOf e) λa=>K (.pointer (some a)))
  | _,_,_=>False
 | .index t x i=>wv (ev ρ x) λvx=>wv (ev ρ i) λvi=>match P.underlying t,vx,vi with
  | some .string,.string s,.int _ i=>OP s i λz=>K (.int .u8 z)
  | _,_,_=>False
 | .lookup t x i ok=>wv (ev ρ x) λvx=>wv (ev ρ i) λvi=>yL P t vx vi ok h K
 | .extract t i=>wv (ev ρ t) λv=>match v with
  | .tuple vs=>wv (vs.toList[i]?) K
  | _=>False
 | .makeFunc fn a b=>match pY ρ a.toList,pY ρ b.toList with
  | some va,some vb=>K (.func fn va.toArray vb.toArray)
  | _,_=>False
 | .build t ps=>match Gx ρ ps.toList with
  | some vs=>nL P t vs K
  | none=>False
 | .slice t x lo hi mx=>wv (ev ρ x) λv=>match uq ρ lo,uq ρ hi,uq ρ mx with
  | some lo,some hi,some mx=>nK P t v lo hi mx K
  | _,_,_=>False
 | .makeInterface t x=>wv (ev ρ x) λv=>fQ (P.concrete t) (K (.iface t v))
 | .typeAssert x _ t true=>wv (ev ρ x) λv=>match P.underlying t,P.info? t,j0 P t with
  | some (.struct _),some ti,some (.agg cs)=>match ti.zero with
   | some (.agg zs)=>wj v t zs.toList cs [] λvs b=>K (.tuple #[.agg vs.toArray,.bool b])
   | _=>False
  | _,_,_=>False
 | .call c=>match c.callee,pY ρ c.args.toList,c.argTypes.toList with
  | .builtin .len,some [x],[t]=>l7 P t x h K
  | .builtin .cap,some [.slice _ _ n],[t]=>(match P.underlying t with|some (.slice _)=>K (.int .i64 (n:Int))|_=>False)
  | .builtin .max,some (x::xs),_=>pc true x xs K
  | .builtin .min,some (x::xs),_=>pc false x xs K
  | _,_,_=>False
 | _=>False
def tU:Op->Bool
 | .move _ | .assign _ | .pick .. | .load _ _ | .nilCheck _ | .binOp .. | .unOp .. | .convert .. | .fieldAddr .. | .field .. | .indexAddr .. | .index .. | .lookup .. | .extract .. | .makeFunc .. | .build .. | .slice .. | .makeInterface .. => true
 | .typeAssert _ _ _ ok=>ok
 | .call c=>match c.callee with | .builtin .len | .builtin .cap | .builtin .max | .builtin .min=>true|_=>false
 | _=>false
theorem Uc {P:Program}{t:Nat}{i:TypeInfo}(hi:P.info? t=some i)(w:World):(typeInfo t).run P w=.ok i w:=by
 simp[typeInfo,hi]
theorem Q2 {P:Program}{t:Nat}(h:(P.info? t).isSome=true)(w:World):(sizeOf t).run P w=.ok (P.cellsOf t) w:=by
 obtain⟨i,a⟩:=oA.1 h;simp[sizeOf,typeInfo,a,Program.cellsOf]
theorem VK {P:Program}{t:Nat}{i:TypeInfo}{z:Value}(hi:P.info? t=some i)(hz:i.zero=some z)(w:World):(zeroValue t).run P w=.ok z w:=by
 simp[zeroValue,typeInfo,hi,hz]
theorem Mf {P:Program}{op:BinOp}{t:Nat}{k:IntKind}{x y:Int}{K:Value->Prop}(h:pS op k x y K)(w:World) :
 ∃v,(binOp op t (.int k x) (.int k y)).run P w=.ok v w/\K v:=by
 cases op<;>simp only[pS,Ar,Nz,Nn]at h
 all_goals first
  | (refine⟨_,?_,h⟩;simp[binOp,Op.intArith,Op.intCmp,Op.intBits,bits];done)
  | (obtain⟨a,b⟩:=h;refine⟨_,?_,b⟩;simp[binOp,Op.intDiv,a];done)
  | (obtain⟨a,b⟩:=h;refine⟨_,?_,b⟩;simp[binOp,Op.shift,Int.not_lt.2 a];done)
theorem Uy {P:Program}{op:BinOp}{t:Nat}{x y:Value}{b:Bool}{K:Value->Prop}(h:nf op b K)(w:World)
 (hb:∀op,(op=.eql\/op=.neq)->binOp op t x y=if op=.eql then(do pure (.bool (←Op.equal t x y)))else(do pure (.bool (!(←Op.equal t x y)))))
 (he:(Op.equal t x y).run P w=.ok b w):∃v,(binOp op t x y).run P w=.ok v w/\K v:=by
 cases op<;>simp only[nf]at h
 case eql=>exact⟨_,by rw[hb .eql (.inl rfl)];simp[he],h⟩
 case neq=>exact⟨_,by rw[hb .neq (.inr rfl)];simp[he],h⟩
theorem JA {P:Program}{t e:Nat}(hu:P.underlying t=some (.pointer e))(p:Option Addr)(d:Nat)(w:World):(Op.equalIn (d+1) t (.pointer p) (.pointer none)).run P w=.ok p.isNone w:=by
 cases p<;>simp[Op.equalIn,run_underlying hu]
theorem La {P:Program}{t e:Nat}(hu:P.underlying t=some (.slice e))(p:Option Addr)(n c d:Nat)(w:World):(Op.equalIn (d+1) t (.slice p n c) (.slice none 0 0)).run P w=.ok p.isNone w:=by
 cases p<;>simp[Op.equalIn,run_underlying hu]
theorem RB {P:Program}{t k e:Nat}(hu:P.underlying t=some (.map k e))(p:Option Nat)(d:Nat)(w:World):(Op.equalIn (d+1) t (.map p) (.map none)).run P w=.ok p.isNone w:=by
 cases p<;>simp[Op.equalIn,run_underlying hu]
theorem Sg {P:Program}{t:Nat}(hu:P.underlying t=some .bool)(a b:Bool)(d:Nat)(w:World):(Op.equalIn (d+1) t (.bool a) (.bool b)).run P w=.ok (a==b) w:=by
 simp[Op.equalIn,run_underlying hu]
theorem OG {P:Program}{w:World}{s:Sl}{K:ByteArray->Prop}(h:DN s w.heap K):∃b,(Conv.bytesToString (.slice s.a s.len s.cap)).run P w=.ok (.string b) w/\K b:=by
 obtain⟨g,p,d,i⟩:=h;refine⟨_,?_,i⟩;cases hs:s.a with
 | none=>
  rw[hs]at d;simp only[Rd,An]at d;subst d;simp[Conv.bytesToString];rfl
 | some a=>
  rw[hs]at d;have e:(loadCells a s.len).run P w=.ok (g.map (Value.int .u8)).toArray w:=by
   rw[←p];simpa using run_loadCells_list (P:=P) (w:=w) a (g.map (Value.int .u8)) (λj v m=>d j v m)
  have key:∀(l:List Int) (acc:ByteArray),List.foldl (λb a=>b.push (UInt8.ofNat a.toNat)) acc l=⟨acc.data++(l.map λn=>UInt8.ofNat n.toNat).toArray⟩:=by
   intro l
   induction l with
   | nil=>intro acc;simp
   | cons n l ih=>intro acc;rw[qv,ih];congr 1;apply Array.ext';simp[ByteArray.push]
  simp only[Conv.bytesToString,Sem.run_bind,e,Result.andThen_ok];simp[key]
theorem LR {P:Program}{t:Nat}{ms:Array (String×TypeId)}(hu:P.underlying t=some (.interface ms)){v:Value}(hv:iS v)(d:Nat)(w:World):(Op.equalIn (d+1) t v .nilIface).run P w=.ok (kx v) w:=by
 rcases hv with rfl|⟨t',u,rfl⟩
 ·simp[Op.equalIn,run_underlying hu,kx]
 ·simp[Op.equalIn,run_underlying hu,kx]
theorem PQ {P:Program}{xt t:TypeId}{ti:TypeInfo}{fs:Array Field}{v:Value}{vs zs:List Value}{b:Bool}(hu:P.underlying t=some (.struct fs))(hi:P.info? t=some ti)(hz:ti.zero=some (.agg zs.toArray))
 (h:j8 v t vs zs b) (w:World) :
 (Instr.typeAssert v xt t true).run P w=.ok (.tuple #[.agg vs.toArray,.bool b]) w:=by
 have a:=VK hi hz w;cases b with
 | true=>
  simp only[j8]at h;subst h;simp[Instr.typeAssert,run_underlying hu]
 | false=>
  simp only[j8]at h;obtain⟨rfl,h⟩:=h;rcases h with rfl|⟨t',u,rfl,hne⟩
  ·simp[Instr.typeAssert,run_underlying hu,a]
  ·simp[Instr.typeAssert,run_underlying hu,hne,a]
theorem Tt {P:Program}{op:BinOp}{t:Nat}{x y:Value}{K:Value->Prop}(h:lS P op t x y K)(w:World) :
 ∃v,(binOp op t x y).run P w=.ok v w/\K v:=by
 unfold lS at h;split at h
 case h_1 e p hu=>
  refine Uy h w ?_ ?_
  ·rintro op (rfl|rfl)<;>simp[binOp]
  ·exact JA hu p 9999 w
 case h_2 e p _ _ hu=>
  refine Uy h w ?_ ?_
  ·rintro op (rfl|rfl)<;>simp[binOp]
  ·exact La hu p _ _ 9999 w
 case h_3 e e' p hu=>
  refine Uy h w ?_ ?_
  ·rintro op (rfl|rfl)<;>simp[binOp]
  ·exact RB hu p 9999 w
 case h_4 ms hu=>
  obtain⟨a,h⟩:=h;refine Uy h w ?_ ?_
  ·rcases a with rfl|⟨t',u,rfl⟩<;>rintro op (rfl|rfl)<;>simp[binOp]
  ·exact LR hu a 9999 w
 ·exact h.elim
theorem Sq {P:Program}{op:BinOp}{t:Nat}{x y:Value}{K:Value->Prop}(h:lK P op t x y K)(w:World) :
 ∃v,(binOp op t x y).run P w=.ok v w/\K v:=by
 unfold lK at h;split at h
 case h_1 k a k' b=>
  split at h
  ·rename_i e;subst e;exact Mf h w
  ·cases op<;>simp only at h
   case shl=>simp only[pS,Ar,Nn]at h;obtain⟨d,g⟩:=h;exact⟨_,by simp[binOp,Op.shift,Int.not_lt.2 d],g⟩
   case shr=>simp only[pS,Ar,Nn]at h;obtain⟨d,g⟩:=h;exact⟨_,by simp[binOp,Op.shift,Int.not_lt.2 d],g⟩
 case h_2 a b=>
  split at h
  ·rename_i hu;refine Uy h w ?_ ?_
   ·rintro op (rfl|rfl)<;>simp[binOp]
   ·exact Sg hu a b 9999 w
  ·exact h.elim
 case h_3 a b=>
  cases op<;>simp only at h
  ·exact⟨_,rfl,h⟩
  ·exact⟨_,rfl,h⟩
 ·exact h.elim
theorem C8 {c:CK}{a:Addr}{h:Hp}{K:c.T->Prop}(hl:yQ c a h K):∃x,cell h a=some (c.v x)/\K x:=by
 cases c<;>exact hl
theorem By {P:Program}{w:World}{a:Addr}{v:Value}(h:cell w.heap a=some v):(load a).run P w=.ok v w:=by
 have:w.cell? a=some v:=h;simp[this]
theorem Ch {P:Program}{w:World}:∀{cs:List CK} {a:Addr} {i:Nat} {K:List Value->Prop},np cs a i w.heap K →
 ∃vs,vs.length=cs.length/\K vs/\∀acc,(loadCellsFrom a i cs.length acc).run P w=.ok (acc++vs.toArray) w
 | [],a,i,K,h=>⟨[],rfl,h,λacc=>by simp[loadCellsFrom]⟩
 | c::cs,a,i,K,h=>by
  obtain⟨x,hx,hK⟩:=C8 h;obtain⟨vs,d,b,e⟩:=Ch (P:=P) hK;refine⟨c.v x::vs,by simp[d],b,λacc=>?_⟩;simp only[zV,loadCellsFrom,Sem.run_bind,By hx,Result.andThen_ok,e]
  congr 1
  apply Array.ext';simp
theorem Vh {P:Program}{t:Nat}{d:TypeDesc}(h:P.underlying t=some d)(w:World):(isAgg t).run P w=.ok (UK d) w:=by
 simp only[isAgg,Sem.run_bind,run_underlying h,Result.andThen_ok];cases d<;>rfl
theorem EB {P:Program}{t:Nat}{c:CK}(h:j0 P t=some (.one c)):∃d,P.underlying t=some d/\UK d=false:=by
 unfold j0 at h;split at h
 ·rename_i d hd;refine⟨d,hd,?_⟩;cases e:UK d
  ·rfl
  ·rw[e]at h;simp at h
 ·cases h
theorem FA {P:Program}{t:Nat}{c:List CK}(h:j0 P t=some (.agg c)):∃d,P.underlying t=some d/\UK d=true:=by
 unfold j0 at h;split at h
 ·rename_i d hd;refine⟨d,hd,?_⟩;cases e:UK d
  ·rw[e]at h;simp at h
  ·rfl
 ·cases h
theorem OJ {P:Program}{t ty:Nat}{x:Value}{K:Value->Prop}{w:World}(h:l7 P t x w.heap K) :
 ∃v,(Builtin.len_ #[t] ty #[x]).run P w=.ok v w/\K v:=by
 unfold l7 at h;split at h
 case h_1 e a n c hu=>exact⟨_,by simp[Builtin.len_,run_underlying hu,goInt],h⟩
 case h_2 s hu=>exact⟨_,by simp[Builtin.len_,run_underlying hu,goInt],h⟩
 case h_3 n e y hu=>exact⟨_,by simp[Builtin.len_,run_underlying hu,goInt],h⟩
 case h_4 kt et m hu=>
  split at h
  case h_1 k c hk hs=>
   obtain⟨l,d,g⟩:=h;cases m with
   | none=>simp only[jo]at d;subst d;exact⟨_,by simp[Builtin.len_,run_underlying hu,goInt],g⟩
   | some r=>
    obtain⟨i,p,u,j,_⟩:=d;have b:i.size=l.length:=by simpa using congrArg List.length j
    refine⟨_,?_,g⟩;simp[Builtin.len_,run_underlying hu,goInt,getObj,Sem.run,u,b]
  ·exact h.elim
 ·exact h.elim
theorem C4 {P:Program}{w:World}:∀{vs:List Value} {v:Value} {b:Bool} {K:Value->Prop},pc b v vs K →
 ∃z,(vs.foldlM (if b then Builtin.max2 else Builtin.min2) v).run P w=.ok z w/\K z
 | [],v,b,K,h=>⟨v,by simp,by simpa[pc]using h⟩
 | u::vs,v,b,K,h=>by
  cases v<;>cases u<;>simp only[pc]at h<;>try exact h.elim
  case int.int k x k' y=>
   obtain⟨z,hz,hK⟩:=C4 h;refine⟨z,?_,hK⟩;cases b
   ·simpa[Builtin.min2]using hz
   ·simpa[Builtin.max2]using hz
theorem Z1 {ρ:Env}{a:Act}(hf:∀x v,ev ρ x=some v->a.eval x=v):∀{os:List Operand} {vs:List Value},pY ρ os=some vs->os.map a.eval=vs
 | [],vs,h=>by simp[pY]at h;simp[h]
 | o::os,vs,h=>by
  simp only[pY]at h;split at h
  ·rename_i v vs' h1 h2;cases h;simp[hf _ _ h1,Z1 hf h2]
  ·cases h
theorem Ue {ρ:Env}{a:Act}(hf:∀x v,ev ρ x=some v->a.eval x=v):∀{os:List (Nat×Operand)} {vs:List (Nat×Value)},Gx ρ os=some vs->os.map (λ(i,x)=>(i,a.eval x))=vs
 | [],vs,h=>by simp[Gx]at h;simp[h]
 | (i,o)::os,vs,h=>by
  simp only[Gx]at h;split at h
  ·rename_i v vs' h1 h2;cases h;simp[hf _ _ h1,Ue hf h2]
  ·cases h
theorem GG {k:IntKind}{n:Int}{c:CK}:∀(es:List MapEntry) (l:List (Int×c.T)) (i:Nat),
 es.map (λe=>(e.key,e.val))=l.map (λx=>(Value.int k x.1,c.v x.2)) →
 Instr.findNow (.int k) (.int k n) es i=some (match l.findIdx? (λx=>x.1==n)with|some j=>some (i+j,match l[j]? with|some x=>c.v x.2|none=>undef)|none=>none)
 | [],l,i,h=>by
  cases l with
  | nil=>simp[Instr.findNow]
  | cons x l=>simp at h
 | e::es,[],i,h=>by simp at h
 | e::es,x::l,i,h=>by
  simp only[zS,List.cons.injEq,Prod.mk.injEq]at h;obtain⟨⟨h1,h2⟩,h3⟩:=h;have a:=GG (n:=n) es l (i+1) h3;simp only[Instr.findNow,h1,Instr.sameNow,zR];by_cases hx:n=x.1
  ·have e1:(n==x.1)=true:=by simpa using hx
   have e2:(x.1==n)=true:=by simpa using hx.symm
   simp[wk,e1,e2,h2]
  ·have e1:(n==x.1)=false:=by simpa using hx
   have e2:(x.1==n)=false:=by simpa using λh=>hx h.symm
   simp only[e1,a,wk,e2];cases List.findIdx? (λx=>x.1==n) l with
   | none=>simp
   | some j=>simp;omega
theorem KV {P:Program}{kt:Nat}{k:IntKind}(hk:P.underlying kt=some (.int k)){n:Int}{c:CK}{es:List MapEntry}{l:List (Int×c.T)}
 (he:es.map (λe=>(e.key,e.val))=l.map (λx=>(Value.int k x.1,c.v x.2))) (w:World) :
 (Instr.findKey kt (.int k n) es).run P w=.ok (match l.findIdx? (λx=>x.1==n)with|some j=>some (j,match l[j]? with|some x=>c.v x.2|none=>undef)|none=>none) w:=by
 simp[Instr.findKey,run_underlying hk,GG es l 0 he]
theorem N2 {P:Program}{kt:Nat}{k:IntKind}(hk:P.underlying kt=some (.int k))(b:Bool)(n:Int)(d:Nat)(w:World) :
 (Instr.checkKey b (d+1) kt (.int k n)).run P w=.ok () w:=by
 simp[Instr.checkKey,run_underlying hk]
theorem QZ {P:Program}{kt:Nat}{k:IntKind}(hk:P.underlying kt=some (.int k))(b:Bool)(n:Int)(w:World) :
 (Instr.checkKey b 10000 kt (.int k n)).run P w=.ok () w:=N2 hk b n 9999 w
theorem O0 {α:Type}(l:List (Int×α))(n:Int):bU l n=(l.findIdx? (λx=>x.1==n)).bind λj=>(l[j]?).map (·.2):=by
 induction l with
 | nil=>rfl
 | cons x l ih=>
  simp only[bU,uv,wk]at *;cases h:x.1==n
  ·simp only[ih];cases List.findIdx? (λx=>x.1==n) l<;>simp
  ·simp
theorem UH {α:Type}{l:List (Int×α)}{n:Int}{j:Nat}(h:l.findIdx? (λx=>x.1==n)=some j):∃x,l[j]?=some x/\x.1=n:=by
 rw[nG]at h;obtain⟨b,a,_⟩:=h;exact⟨l[j],by simp[b],by simpa using a⟩
theorem N7 {P:Program}{t:Nat}{x i:Value}{ok:Bool}{K:Value->Prop}{w:World}(h:yL P t x i ok w.heap K) :
 ∃v,(Instr.lookup t x i ok).run P w=.ok v w/\K v:=by
 unfold yL at h;split at h
 case h_2=>exact h.elim
 rename_i kt et m k n hu;split at h
 case h_2=>exact h.elim
 rename_i k' c ti hk hs hi;split at h
 case h_2=>exact h.elim
 rename_i z hz;split at h
 case isFalse=>exact h.elim
 rename_i e;subst e;obtain⟨B,a,l,b,d⟩:=VZ h;refine⟨_,?_,d⟩;cases m with
 | none=>
  simp only[jo]at b;subst b;simp only[Instr.lookup,Sem.run_bind,run_underlying hu,Result.andThen_ok,Sem.run_pure,QZ hk,KV (c:=c) (l:=[]) hk (rfl:List.map _ (#[]:Array MapEntry).toList=_),List.findIdx?_nil,VK hi hz];cases ok<;>simp[bU,a]
 | some r=>
  obtain⟨A,s,u,g,_⟩:=b;simp only[Instr.lookup,Sem.run_bind,run_underlying hu,Result.andThen_ok,Sem.run_pure,QZ hk,getObj,Sem.run,u,KV hk g,O0];cases hf:l.findIdx? (λx=>x.1==n)with
  | none=>cases ok<;>simp[VK hi hz,a]
  | some j=>
   obtain⟨y,p,_⟩:=UH hf;cases ok<;>simp[p]
theorem Jq (off:Nat):∀(vs:List Value) (k:Nat) (cs:Array Value),off+k+vs.length<=cs.size →
 ((vs.zipIdx k).foldl (λcs (c,j)=>cs.setIfInBounds (off+j) c) cs).toList=cs.toList.take (off+k)++vs++cs.toList.drop (off+k+vs.length)
 | [],k,cs,h=>by simp
 | v::vs,k,cs,h=>by
  simp only[List.zipIdx_cons,qv];rw[Jq off vs (k+1) _ (by simp only[Array.size_setIfInBounds,zV]at *;omega)];simp only[zV]at h;have hlt:off+k<cs.toList.length:=by simp;omega
  simp only[Array.toList_setIfInBounds,zV];apply zo;intro m;simp only[List.getElem?_append,zY,oZ,zM,zj,nm,kQ,List.getElem?_cons,zV]
  grind
theorem UX (Zx:Nat->Option (Nat×Nat)):∀(ps:List (Nat×Value)) (cells:List Value) (cs:List Value),rY Zx cells ps=some cs->Instr.fill Zx cells.toArray ps=some cs.toArray
 | [],cells,cs,h=>by simp[rY]at h;simp[Instr.fill,h]
 | (i,v)::rest,cells,cs,h=>by
  simp only[rY]at h;simp only[Instr.fill];cases hp:Zx i with
  | none=>rw[hp]at h;cases h
  | some os=>
   obtain⟨off,size⟩:=os;rw[hp]at h;simp only at h ⊢;split at h
   ·cases h
   ·rename_i hc;simp only[not_or,Decidable.not_not,Nat.not_lt]at hc;obtain⟨a,b⟩:=hc;rw[zB (by simp[a];omega)];have:=Jq off v.cells.toList 0 cells.toArray aE;have e:(v.cells.zipIdx.foldl (λcs (c,j)=>cs.setIfInBounds (off+j) c) cells.toArray)=(cells.take off++v.cells.toList++cells.drop (off+size)).toArray:=by
     apply Array.ext';rw[←Array.foldl_toList,Array.toList_zipIdx,this];simp[a]
    rw[e];exact UX Zx rest _ _ h
theorem Eo {P:Program}{w:World}:∀(fs:List Field),(fs.all λf=>(P.info? f.type).isSome)=true →
 (fs.mapM λf=>(do pure (f.offset,←sizeOf f.type):Sem (Nat×Nat))).run P w=.ok (fs.map λf=>(f.offset,P.cellsOf f.type)) w
 | [],_=>by simp
 | f::fs,h=>by
  simp only[vq,zE]at h;have ih:=Eo (P:=P) (w:=w) fs h.2;simp only[List.mapM_cons,Sem.run_bind,Q2 h.1,Result.andThen_ok,Sem.run_pure,ih,zS]
theorem C5 {raw:Nat->Bool}:∀{ps:List (Nat×Value)} {A:Prop},lF raw ps A->A/\∀Zx cells,Instr.fill Zx cells (wB raw ps)=Instr.fill Zx cells ps
 | [],A,h=>⟨h,λ_ _=>rfl⟩
 | (i,v)::ps,A,h=>by
  simp only[lF]at h;cases hr:raw i
  ·rw[hr]at h;obtain⟨hA,ih⟩:=C5 h;exact⟨hA,λZx cells=>by simp only[wB,Instr.fill,ih,hr,cond_false]⟩
  ·rw[hr]at h;simp only[cond_true]at h;obtain⟨hA,ih⟩:=C5 h.2;have e:(Value.agg #[v]).cells=v.cells:=by
    rcases h.1 with rfl|⟨t,u,rfl⟩<;>rfl
   exact⟨hA,λZx cells=>by simp only[wB,Instr.fill,ih,hr,cond_true,e]⟩
theorem L8 {P:Program}{t:Nat}{ps:Array (Nat×Value)}{K:Value->Prop}{w:World}(h:nL P t ps.toList K) :
 ∃v,(Instr.build t ps).run P w=.ok v w/\K v:=by
 unfold nL at h;split at h
 case h_1 p fs hi hu=>
  split at h
  case h_2=>exact h.elim
  rename_i z hz;obtain⟨h,m⟩:=C5 h;split at h
  case h_2=>exact h.elim
  rename_i cs hf;rw[WK]at h;obtain⟨a,r⟩:=h;refine⟨_,?_,r⟩;have u:=Eo (P:=P) (w:=w) fs.toList a;have g:(fs.mapM λf=>(do pure (f.offset,←sizeOf f.type):Sem (Nat×Nat))).run P w=.ok (fs.map λf=>(f.offset,P.cellsOf f.type)) w:=by
   rw[Array.mapM_eq_mapM_toList];simp only[Sem.run_map,u,Result.andThen_ok]
   congr 1
   apply Array.ext';simp
  have d:(λi=>(fs.map λf=>(f.offset,P.cellsOf f.type))[i]?)=Co P fs:=by
   funext i
   simp only[Co,Array.getElem?_map];cases hfi:fs[i]? with
   | none=>simp
   | some f=>
    have b:f∈fs.toList:=by
     have:=yH hfi;simpa using this
    have:=kf.1 a f b;obtain⟨p,j⟩:=oA.1 this;simp[j,Program.cellsOf]
  have:=UX _ _ _ _ hf;rw[m]at this;simp only[Instr.build,Sem.run_bind,VK hi hz,Result.andThen_ok,run_underlying hu,g,d];have e:z.cells.toList.toArray=z.cells:=by simp
  rw[e]at this;simp[this]
 case h_2 p n e hi hu=>
  split at h
  case h_2=>exact h.elim
  rename_i z te hz hte;split at h
  case h_2=>exact h.elim
  rename_i cs hf;refine⟨_,?_,h⟩;have:=UX _ _ _ _ hf;have e1:z.cells.toList.toArray=z.cells:=by simp
  rw[e1]at this;have s:(sizeOf e).run P w=.ok te.size w:=by simp[sizeOf,Uc hte]
  simp only[Instr.build,Sem.run_bind,VK hi hz,Result.andThen_ok,run_underlying hu,s];simp[this]
 ·exact h.elim
theorem WE {o:Option Value}{K:Value->Prop}(h:wv o K):∃v,o=some v/\K v:=by
 cases o with
 | none=>exact h.elim
 | some v=>exact⟨v,rfl,h⟩
theorem TH {P:Program}{t off:Nat}{cs:Array Value}{K:Value->Prop}{w:World}(h:vj P t cs.toList off K) :
 ∃v,(part t cs off).run P w=.ok v w/\K v:=by
 unfold vj at h;split at h
 case h_2=>exact h.elim
 rename_i d ti hu hi;cases hd:UK d
 ·rw[hd]at h;obtain⟨v,a,b⟩:=WE h;refine⟨v,?_,b⟩;have:cs[off]?=some v:=by simpa using a
  simp[part,Vh hu,hd,this]
 ·rw[hd]at h;refine⟨_,?_,h⟩;simp only[part,Sem.run_bind,Vh hu,hd,Result.andThen_ok,sizeOf,Uc hi,zR,Sem.run_pure]
  congr 2
  apply Array.ext';simp
theorem KD {P:Program}{w:World}{z:Int}{y:Nat}{code:BoundsCode}(h0:0<=z)(h1:z<=y):(Instr.sliceBound (.int .i64 z) y code).run P w=.ok z.toNat w:=by
 simp[Instr.sliceBound,asIntOf,h0,h1]
theorem Io {o:Option Value}{d l:Int}(h:(match o with|none=>some d|some (.int .i64 z)=>some z|_=>none)=some l):(o=none/\l=d)\/o=some (.int .i64 l):=by
 split at h
 ·simp at h;exact .inl ⟨rfl,h.symm⟩
 ·simp at h;subst h;exact .inr rfl
 ·cases h
theorem SO {P:Program}{t:Nat}{x:Value}{lo hi mx:Option Value}{K:Value->Prop}{w:World}(h:nK P t x lo hi mx K) :
 ∃v,(Instr.sliceAt t x lo hi mx).run P w=.ok v w/\K v:=by
 unfold nK at h;split at h
 case h_2=>exact h.elim
 rename_i e a n c hu;split at h
 case h_2=>exact h.elim
 rename_i ti hi';simp only at h;split at h
 case h_2=>exact h.elim
 rename_i l hh m hlo hhi hmx;obtain⟨s,A,u,p,g⟩:=h;refine⟨_,?_,g⟩;simp only at p;have d:(sizeOf e).run P w=.ok ti.size w:=by simp[sizeOf,Uc hi']
 have r:(Instr.sliceBounds true n c lo hi mx).run P w=.ok (l.toNat,hh.toNat,m.toNat) w:=by
  have j:(mx=none/\m=c)\/(mx=some (.int .i64 m)/\hi≠none):=by
   split at hmx
   ·simp at hmx;exact .inl ⟨rfl,hmx.symm⟩
   ·simp at hmx;subst hmx;exact .inr ⟨rfl,by simp⟩
   ·cases hmx
  have i:=Io hlo;have b:=Io hhi;clear hlo hhi hmx;rcases j with⟨rfl,rfl⟩|⟨rfl,hne⟩<;>rcases b with⟨rfl,rfl⟩|rfl
  case inr.inl=>exact absurd rfl hne
  all_goals rcases i with⟨rfl,rfl⟩|rfl
  ·simp[Instr.sliceBounds]
  ·have:=KD (P:=P) (w:=w) (z:=l) (y:=n) (code:=.sliceB) s O;simp[Instr.sliceBounds,this]
  ·have:=KD (P:=P) (w:=w) (z:=hh) (y:=c) (code:=.sliceAcap) O O;simp[Instr.sliceBounds,this]
  ·have:=KD (P:=P) (w:=w) (z:=hh) (y:=c) (code:=.sliceAcap) O O;have:=KD (P:=P) (w:=w) (z:=l) (y:=hh.toNat) (code:=.sliceB) O O;simp[Instr.sliceBounds, *]
  ·have:=KD (P:=P) (w:=w) (z:=m) (y:=c) (code:=.slice3Acap) O O;have:=KD (P:=P) (w:=w) (z:=hh) (y:=m.toNat) (code:=.slice3B) O O;simp[Instr.sliceBounds, *]
  ·have:=KD (P:=P) (w:=w) (z:=m) (y:=c) (code:=.slice3Acap) O O;have:=KD (P:=P) (w:=w) (z:=hh) (y:=m.toNat) (code:=.slice3B) O O;have:=KD (P:=P) (w:=w) (z:=l) (y:=hh.toNat) (code:=.slice3C) O O;simp[Instr.sliceBounds, *]
 simp only[Instr.sliceAt,Instr.slice,Sem.run_bind,run_underlying hu,Result.andThen_ok,r,d,Sem.run_pure]
theorem FG {P:Program}{op:BinOp}{t:Nat}{x y:Operand}{a b:Value}(w:World)(h:(∀cs,a≠.agg cs)/\a≠.nilIface):(eqGuard op t x y a b).run P w=.ok () w:=by
 unfold eqGuard;cases op<;>simp
 all_goals (cases a<;>first|rfl | (simp at h))
theorem O9 {P:Program}{op:BinOp}{t:Nat}{x y:Value}{K:Value->Prop}(h:lK P op t x y K):(∀cs,x≠.agg cs)/\x≠.nilIface:=by
 unfold lK at h;split at h<;>first|exact absurd h id | (constructor<;>simp)
theorem Sh {P:Program}{op:BinOp}{t:Nat}{x y:Value}{K:Value->Prop}(h:lS P op t x y K):∀cs,x≠.agg cs:=by
 unfold lS at h;split at h
 case h_4=>rcases h.1 with rfl|⟨t',u,rfl⟩<;>simp
 all_goals first|exact absurd h id|simp
theorem Sm {P:Program}{op:BinOp}{t:Nat}{x:Operand}{c:Value}{a b:Value}(w:World)(h:∀cs,a≠.agg cs):(eqGuard op t x (.const c) a b).run P w=.ok () w:=by
 unfold eqGuard;cases op<;>simp
 all_goals (cases a<;>first|rfl|exact absurd rfl (h _) | (cases b<;>simp))
theorem Oh {y:Operand}(h:td y=true):∃c,y=.const c:=by
 unfold td at h;split at h<;>first|exact⟨_,rfl⟩|cases h
theorem yU {P:Program}{s f:Nat}{K:Field->Prop}(h:nA P s f K):∃fs fd,P.underlying s=some (.struct fs)/\fs[f]?=some fd/\K fd:=by
 unfold nA at h;split at h
 ·split at h
  ·exact⟨_,_,by assumption,by assumption,h⟩
  ·exact h.elim
 ·exact h.elim
theorem Ox {P:Program}{t:Nat}(h:P.cellsOf t≠0):(P.info? t).isSome=true:=by
 unfold Program.cellsOf at h;cases hi:P.info? t with
 | none=>rw[hi]at h;simp at h
 | some i=>rfl
theorem BA {ρ:Env}{a:Act}(hf:∀x v,ev ρ x=some v->a.eval x=v){o:Option Operand}{v:Option Value}(h:uq ρ o=some v):o.map a.eval=v:=by
 cases o with
 | none=>simp[uq]at h;simp[h]
 | some o=>
  simp only[uq,nR]at h;obtain⟨u,b,rfl⟩:=h;simp[hf _ _ b]
theorem VM {P:Program}{t:Nat}{d:TypeDesc}{cs:Array Value}{off:Nat}{v:Value}{w:World}(hd:P.underlying t=some d)(hag:UK d=false)(h:cs.toList[off]?=some v):(part t cs off).run P w=.ok v w:=by
 have a:cs[off]?=some v:=by simpa using h
 simp[part,Vh hd,hag,a]
theorem Cp {P:Program}{xs ys:Array Value}(d:Nat):∀(fs:List Field) (b:Bool),oB P xs.toList ys.toList fs=some b->∀w,(Op.eqFields (d+1) xs ys fs).run P w=.ok b w
 | [],b,h,w=>by simp[oB]at h;subst h;simp[Op.eqFields]
 | f::fs,b,h,w=>by
  simp only[oB]at h;cases hn:f.name == "_"
  ·rw[hn]at h;simp only[cond_false]at h;have hne:f.name ≠ "_" := by simpa using hn
   split at h
   ·rename_i k0 k a k' b' r hu hx hy hr;split at h
    case isFalse=>cases h
    rename_i e;subst e;simp only[Option.some.injEq]at h;subst h;have ih:=Cp (d:=d) fs r hr w;simp only[Op.eqFields,hne,ne_eq,not_false_eq_true,zR,Sem.run_bind,VM hu rfl hx,VM hu rfl hy,Result.andThen_ok,run_equalIn_int w d f.type k k0 a b' hu];cases hab:a==b'<;>simp[ih]
   ·rename_i a b' r hu hx hy hr;simp only[Option.some.injEq]at h;subst h;have ih:=Cp (d:=d) fs r hr w;simp only[Op.eqFields,hne,ne_eq,not_false_eq_true,zR,Sem.run_bind,VM hu rfl hx,VM hu rfl hy,Result.andThen_ok,run_equalIn_bool' w d f.type a b' hu];cases hab:a==b'<;>simp[ih]
   ·cases h
  ·rw[hn]at h;cases h
theorem Bh {P:Program}{e:TypeId}(hC:P.cellsOf e=1){xs ys:Array Value}(d:Nat):∀(is:List Nat) (b:Bool),pw P e xs.toList ys.toList is=some b->∀w,(Op.eqItems (d+1) e (P.cellsOf e) xs ys is).run P w=.ok b w
 | [],b,h,w=>by simp[pw]at h;subst h;simp[Op.eqItems]
 | i::is,b,h,w=>by
  simp only[pw]at h;split at h
  ·rename_i k0 k a k' b' r hu hx hy hr;split at h
   case isFalse=>cases h
   rename_i e';subst e';simp only[Option.some.injEq]at h;subst h;have ih:=Bh hC d is r hr w;simp only[Op.eqItems,hC,nH,Sem.run_bind,VM hu rfl hx,VM hu rfl hy,Result.andThen_ok,run_equalIn_int w d e k k0 a b' hu];rw[hC]at ih;cases hab:a==b'<;>simp[ih]
  ·rename_i t0 p r hu hx hy hr;simp only[Option.some.injEq]at h;subst h;have ih:=Bh hC d is r hr w;simp only[Op.eqItems,hC,nH,Sem.run_bind,VM hu rfl hx,VM hu rfl hy,Result.andThen_ok,JA hu p d w];rw[hC]at ih;cases hab:p.isNone<;>simp[ih]
  ·cases h
theorem NF {P:Program}{op:BinOp}{t:Nat}{xs ys:Array Value}{K:Value->Prop}(h:nk P op t xs.toList ys.toList K)(x y:Operand)(w:World) :
 ∃v,(do eqGuard op t x y (.agg xs) (.agg ys);binOp op t (.agg xs) (.agg ys):Sem Value).run P w=.ok v w/\K v:=by
 have fin:∀b:Bool,(Op.equalIn 10000 t (.agg xs) (.agg ys)).run P w=.ok b w->P.eqGuardType P.depth t=false->nf op b K →
  ∃v,(do eqGuard op t x y (.agg xs) (.agg ys);binOp op t (.agg xs) (.agg ys):Sem Value).run P w=.ok v w/\K v:=by
  intro b a hgt h;have j:=run_eqGuard_agg (P:=P) w op t x y xs ys hgt;cases op<;>simp only[nf]at h
  ·exact⟨_,by simp only[Sem.run_bind,j,Result.andThen_ok,run_eql_struct,a],h⟩
  ·exact⟨_,by simp only[Sem.run_bind,j,Result.andThen_ok,run_neq_struct,a],h⟩
 unfold nk at h;split at h
 case h_1 fs hu=>
  rw[WK]at h;obtain⟨d,h⟩:=h;simp only[zE,mM]at d;split at h
  case h_2=>exact h.elim
  rename_i b hb;have g:P.fieldsOf t=fs:=by simp[Program.fieldsOf,hu]
  have a:(Op.equalIn 10000 t (.agg xs) (.agg ys)).run P w=.ok b w:=by
   have:=run_equalIn_struct (P:=P) w 9999 t xs ys (by rw[g];exact hu) d.1;rw[g]at this;exact this.trans (Cp 9998 fs.toList b hb w)
  exact fin b a d.2 h
 case h_2 n e hu=>
  rw[WK]at h;obtain⟨d,h⟩:=h;simp only[zE,mM,zT]at d;split at h
  case h_2=>exact h.elim
  rename_i b hb;obtain⟨i,m⟩:=oA.1 d.2.1;exact fin b ((run_equalIn_array (P:=P) w 9999 xs ys hu m).trans (Bh d.2.2 9998 _ b hb w)) d.1 h
 case h_3=>exact h.elim
theorem S2 {P:Program}{op:BinOp}{t:Nat}{p q:Option Addr}{K:Value->Prop}{w:World}(h:qz P op t p q w.heap K):∃v,(binOp op t (.pointer p) (.pointer q)).run P w=.ok v w/\K v:=by
 unfold qz at h;split at h
 case h_2=>exact h.elim
 rename_i e hu;rw[WK]at h;obtain⟨r,h⟩:=h;simp only[zE,bne_iff_ne,ne_eq]at r;obtain⟨i,s⟩:=oA.1 r.1;have j:i.size≠0:=by have:=r.2;simp only[Program.cellsOf,s]at this;exact this
 have key:∀(K:Bool->Prop),xX w.heap p q K->∃b,(∀d:Nat,(Op.equalIn (d+1) t (.pointer p) (.pointer q)).run P w=.ok b w)/\K b:=λK g=>by
  cases p with
  | none=>exact⟨_,λd=>by simp[Op.equalIn,run_underlying hu],g⟩
  | some a=>
   cases q with
   | none=>exact⟨_,λd=>by simp[Op.equalIn,run_underlying hu],g⟩
   | some b=>
    unfold xX at g;simp only at g;by_cases hab:a=b
    ·subst hab;rw[zC rfl]at g;exact⟨true,λd=>by simp[Op.equalIn,run_underlying hu,sizeOf,typeInfo,s,run_sameAddr_same,j],g⟩
    ·rw[zB hab]at g;obtain⟨⟨⟨C,A,x⟩,z,B,y⟩,m⟩:=g;exact⟨false,λd=>by simp[Op.equalIn,run_underlying hu,sizeOf,typeInfo,s,j,run_sameAddr_other w hab x y],m⟩
 cases op<;>simp only at h
 case eql=>
  obtain⟨b,u,m⟩:=key _ h;exact⟨_,by simp only[binOp];simp[Op.equal,Op.maxDepth,u 9999],m⟩
 case neq=>
  obtain⟨b,u,m⟩:=key _ h;exact⟨_,by simp only[binOp];simp[Op.equal,Op.maxDepth,u 9999],m⟩
theorem xP {P:Program}{ρ:Env}{K:Value->Prop}{a:Act}{w:World}(hf:∀x v,ev ρ x=some v->a.eval x=v)(o:Oper)(hk:qK P o.op ρ w.heap K) :
 ∃v,(execOp a.eval o).run P w=.ok (.value v) w/\K v:=by
 obtain⟨dst,op,ty,pos,Y,Z⟩:=o;simp only at hk;have j:∀{s:Sem Value},(∃v,s.run P w=.ok v w/\K v)->∃v,(do pure (Next.value (←s)):Sem Next).run P w=.ok (.value v) w/\K v:=by
  rintro s ⟨v,p,g⟩;exact⟨v,by simp[p],g⟩
 unfold qK at hk;split at hk
 case h_1 x=>
  obtain⟨v,p,g⟩:=WE hk;exact⟨v,by simp[execOp,hf _ _ p],g⟩
 case h_2 x=>
  obtain⟨v,p,g⟩:=WE hk;exact⟨v,by simp[execOp,hf _ _ p],g⟩
 case h_3 c x y=>
  obtain⟨v,p,g⟩:=WE hk;split at g
  ·obtain⟨u,C,g⟩:=WE g;exact⟨u,by simp[execOp,hf _ _ p,asBool,hf _ _ C],g⟩
  ·obtain⟨u,C,g⟩:=WE g;exact⟨u,by simp[execOp,hf _ _ p,asBool,hf _ _ C],g⟩
  ·exact g.elim
 case h_4 t x=>
  obtain⟨v,p,g⟩:=WE hk;simp only[execOp,hf _ _ p];apply j;split at g
  case h_1 M c G=>
   rw[WK]at g;obtain⟨d,hd,L⟩:=EB G;obtain⟨x,r,g⟩:=C8 g.2;exact⟨_,by simp only[Instr.loadAt,Instr.sureAddr,loadVar,Sem.run_bind,Sem.run_pure,Result.andThen_ok,Vh hd,L];simpa using By r,g⟩
  case h_2 M V G=>
   rw[WK,WK]at g;obtain⟨z,A,g⟩:=g;obtain⟨d,hd,L⟩:=FA G;obtain⟨vs,hl,g,X⟩:=Ch (P:=P) g;have aa:P.cellsOf t=V.length:=by simpa using z
   refine⟨_,?_,g⟩;simp only[Instr.loadAt,Instr.sureAddr,loadVar,Sem.run_bind,Sem.run_pure,Result.andThen_ok,Vh hd,L,zR,Q2 A,loadCells,aa,X];simp
  ·exact g.elim
 case h_5 x=>
  obtain⟨v,p,g⟩:=WE hk;simp only[execOp,hf _ _ p];split at g
  ·obtain⟨M,rfl,g⟩:=g;exact⟨_,by simp,g⟩
  ·exact⟨_,by simp,g⟩
  ·exact g.elim
 case h_6 op t x y yt=>
  obtain⟨E,r,hk⟩:=WE hk;obtain⟨vy,hy,hk⟩:=WE hk;simp only[execOp,hf _ _ r,hf _ _ hy];apply j;unfold vU at hk;cases hn:td y
  ·rw[hn]at hk;simp only[cond_false]at hk;split at hk
   ·exact NF hk x y w
   ·obtain⟨v,p,g⟩:=S2 hk;exact⟨v,by simp[FG (x:=x) (y:=y) (a:=.pointer _) (b:=.pointer _) w ⟨λV e=>(by cases e),λe=>(by cases e)⟩,p],g⟩
   obtain⟨v,p,g⟩:=Sq hk w;exact⟨v,by simp[FG w (O9 hk),p],g⟩
  ·rw[hn]at hk;simp only[cond_true]at hk;obtain⟨v,p,g⟩:=Tt hk w;obtain⟨c,hc⟩:=Oh hn;have hg:=Sm (P:=P) (op:=op) (t:=t) (x:=x) (c:=c) (b:=vy) w (Sh hk);exact⟨v,by rw[hc];simp[hg,p],g⟩
 case h_7 op ty' x=>
  obtain⟨E,r,hk⟩:=WE hk;simp only[execOp,hf _ _ r];apply j;split at hk
  ·exact⟨_,by simp[Op.unary],hk⟩
  ·exact⟨_,by simp[Op.unary,Op.intArith],hk⟩
  ·exact hk.elim
 case h_8 s d x=>
  obtain⟨E,r,hk⟩:=WE hk;simp only[execOp,hf _ _ r];apply j;split at hk
  ·rename_i z A;exact⟨_,by simp[convert,run_underlying z,run_underlying A,Conv.intToInt],hk⟩
  ·rename_i z A;exact⟨_,by simp[convert,run_underlying z,run_underlying A],hk⟩
  ·rename_i z A;split at hk
   ·rename_i C;obtain⟨b,X,g⟩:=OG (P:=P) hk;exact⟨_,by simpa[convert,run_underlying z,run_underlying A,run_underlying C]using X,g⟩
   ·exact hk.elim
  ·exact hk.elim
 case h_9 s x f=>
  obtain⟨E,r,hk⟩:=WE hk;obtain⟨fs,fd,G,J,hk⟩:=yU hk;simp only[execOp,hf _ _ r];apply j;split at hk
  ·rename_i M;rw[WK]at hk;have R:P.cellsOf fd.type≠0:=by simpa using hk.1
   refine⟨_,?_,hk.2⟩;simp only[Instr.fieldAt,Sem.run_bind,run_underlying G,Result.andThen_ok,J,Instr.sureAddr,Sem.run_pure,fieldPlace,Q2 (Ox R),R,zp]
  ·exact hk.elim
 case h_10 s x f=>
  obtain⟨E,r,hk⟩:=WE hk;obtain⟨fs,fd,G,J,hk⟩:=yU hk;simp only[execOp,hf _ _ r];apply j;split at hk
  ·rename_i V;obtain⟨v,p,g⟩:=TH (w:=w) hk;refine⟨v,?_,g⟩;simp only[Instr.field,Sem.run_bind,run_underlying G,Result.andThen_ok,J,asAgg,Sem.run_pure,p]
  ·exact hk.elim
 case h_11 t x i=>
  obtain⟨E,r,hk⟩:=WE hk;obtain⟨vi,F,hk⟩:=WE hk;simp only[execOp,hf _ _ r,hf _ _ F];apply j;split at hk
  ·have C:=(by assumption:P.underlying t=some _);rw[WK]at hk;obtain⟨z,M,rfl,A,Q,g⟩:=hk;refine⟨_,?_,g⟩;simp[Instr.indexAt,asIntOf,run_underlying C,Q2 z,A,Q]
  ·have C:=(by assumption:P.underlying t=some _);rw[WK]at hk;obtain⟨z,A,Q,g⟩:=hk;refine⟨_,?_,g⟩;simp[Instr.indexAt,asIntOf,run_underlying C,Q2 z,A,Q,Instr.sureAddr]
  ·exact hk.elim
 case h_12 t x i=>
  obtain⟨E,r,hk⟩:=WE hk;obtain⟨vi,F,hk⟩:=WE hk;simp only[execOp,hf _ _ r,hf _ _ F];apply j;split at hk
  ·have C:=(by assumption:P.underlying t=some _);obtain⟨b,z,A,g⟩:=hk;refine⟨_,?_,g⟩;simp[Instr.index,asIntOf,run_underlying C,z,A]
  ·exact hk.elim
 case h_13 t x i ok=>
  obtain⟨E,r,hk⟩:=WE hk;obtain⟨vi,F,hk⟩:=WE hk;simp only[execOp,hf _ _ r,hf _ _ F];exact j (N7 hk)
 case h_14 t i=>
  obtain⟨E,r,hk⟩:=WE hk;simp only[execOp,hf _ _ r];apply j;split at hk
  ·obtain⟨v,p,g⟩:=WE hk;have N:=p;rw[yJ]at N;exact⟨v,by simp[Instr.extract,N],g⟩
  ·exact hk.elim
 case h_15 fn x y=>
  split at hk
  ·rename_i va vb z A;have e1:=Z1 hf z;have e2:=Z1 hf A;refine⟨_,?_,hk⟩;have H:x.map a.eval=va.toArray:=by apply Array.ext';simpa using e1
   have W:y.map a.eval=vb.toArray:=by apply Array.ext';simpa using e2
   simp[execOp,Instr.makeFunc,H,W]
  ·exact hk.elim
 case h_16 t ps=>
  split at hk
  ·rename_i vs z;have e1:=Ue hf z;have H:ps.map (λ(i,x)=>(i,a.eval x))=vs.toArray:=by apply Array.ext';simpa using e1
   simp only[execOp];apply j;rw[H];exact L8 (by simpa using hk)
  ·exact hk.elim
 case h_17 t x lo F mx=>
  obtain⟨E,r,hk⟩:=WE hk;simp only[execOp,hf _ _ r];apply j;split at hk
  ·rename_i l h m z A Q;rw[BA hf z,BA hf A,BA hf Q];exact SO hk
  ·exact hk.elim
 case h_18 t x=>
  obtain⟨E,r,hk⟩:=WE hk;rw[WK]at hk;simp only[execOp,hf _ _ r];exact⟨_,by simp[run_makeInterface w t E hk.1],hk.2⟩
 case h_19 x xt t=>
  obtain⟨E,r,hk⟩:=WE hk;simp only[execOp,hf _ _ r];apply j;split at hk
  case h_2=>exact hk.elim
  rename_i fs ti V C F G;split at hk
  case h_2=>exact hk.elim
  rename_i zs hz;obtain⟨vs,b,p,g⟩:=hk.out;exact⟨_,PQ C F (by simpa using hz) p w,g⟩
 case h_20 c=>
  obtain⟨U,D,S⟩:=c;simp only at hk;split at hk
  ·rename_i x t ha ht;have B:=Z1 hf ha;have e1:D.map a.eval = #[x]:=by apply Array.ext';simpa using B
   have e2:S = #[t]:=by apply Array.ext';simpa using ht
   subst e2;obtain⟨v,p,g⟩:=OJ (ty:=ty) hk;refine⟨v,?_,g⟩;simp[execOp,resolve,e1,invoke,builtin,p]
  ·rename_i M l n t ha ht;have B:=Z1 hf ha;have e1:D.map a.eval = #[.slice M l n]:=by apply Array.ext';simpa using B
   have e2:S = #[t]:=by apply Array.ext';simpa using ht
   subst e2;split at hk
   ·rename_i C;refine⟨_,?_,hk⟩;simp[execOp,resolve,e1,invoke,builtin,Builtin.cap_,run_underlying C,goInt]
   ·exact hk.elim
  ·rename_i x xs ha;have B:=Z1 hf ha;have e1:D.map a.eval=(x::xs).toArray:=by apply Array.ext';simpa using B
   obtain⟨v,p,g⟩:=C4 (P:=P) (w:=w) hk;refine⟨v,?_,g⟩;simp only[zR]at p;simp[execOp,resolve,e1,invoke,builtin,Builtin.max_,p]
  ·rename_i x xs ha;have B:=Z1 hf ha;have e1:D.map a.eval=(x::xs).toArray:=by apply Array.ext';simpa using B
   obtain⟨v,p,g⟩:=C4 (P:=P) (w:=w) hk;refine⟨v,?_,g⟩;simp only[zZ,zp]at p;simp[execOp,resolve,e1,invoke,builtin,Builtin.min_,p]
  ·exact hk.elim
 ·exact hk.elim
def nF (P:Program):List TypeId->Option (List SK)
 | []=>some []
 | t::ts=>match j0 P t,nF P ts with|some s,some ss=>some (s::ss)|_,_=>none
def V9 (P:Program)(f:Nat):Bool:=
 match P.funcs[f]? with
 | some fn=>!(fn.name == "runtime.NumGoroutine") && fn.body.isSome
 | none=>false
def tH (P:Program)(f:Nat)(args:List Value)(h:Hp)(K:aO):Prop:=
 ∀w:World,w.heap=h->∃b w',(callFunc f args.toArray).run P w=.ok (.value (.bool b)) w'/\Xt w w'/\K b w'.heap
def CS (P:Program)(f:Nat)(args:List Value)(h:Hp)(K:Value->Hp->Prop):Prop:=
 match P.funcs[f]? with
 | some fn=>match nF P fn.resultTypes.toList with
  | some rs=>match V9 P f with
   | true=>Wi P f args.toArray rs h (lam (eU rs) λvs h'=>K (pack rs vs) h')
   | false=>match rs with
    | [.one .b]=>tH P f args h λb h'=>K (.bool b) h'
    | _=>False
  | none=>False
 | none=>False
def Av (P:Program)(v:Value)(name:String)(args:List Value)(ty:TypeId)(h:Hp)(K:Value->Hp->Prop):Prop:=
 match (match P.underlying ty with|some (.tuple ts)=>nF P ts.toList|_=>nF P [ty])with
 | some rs=>iV P v name args rs h (lam (eU rs) λvs h'=>K (pack rs vs) h')
 | none=>False
def AW (P:Program)(fv:Fv):Prop:=V9 P fv.f=true
def VH (P:Program)(fv:Fv)(args:List Value)(rs:List SK)(h:Hp)(R:eL (eU rs)):Prop:=
 AW P fv/\EK P fv args rs h R
def Bv (P:Program)(fv:Fv)(args:List Value)(ty:TypeId)(h:Hp)(K:Value->Hp->Prop):Prop:=
 match (match P.underlying ty with|some (.tuple ts)=>nF P ts.toList|_=>nF P [ty])with
 | some rs=>VH P fv args rs h (lam (eU rs) λvs h'=>K (pack rs vs) h')
 | none=>False
def B9 (a:Addr)(vs:List Value)(h:Hp)(K:aP):Prop:=
 match vs with
 | [v]=>dU a v h K
 | vs=>qc a h vs 0 K
def rT (P:Program)(t:TypeId)(K:IntKind->CK->Prop):Prop:=
 match P.underlying t with
 | some (.map kt et)=>match P.underlying kt,oe P et with
  | some (.int k),some (.one c)=>K k c
  | _,_=>False
 | _=>False
def CG (P:Program)(t:TypeId)(len:Nat)(ps:List (Nat×Value))(K:TypeId->List Value->Prop):Prop:=
 match P.underlying t with
 | some (.slice e)=>match P.info? e with
  | some te=>match te.zero with
   | some z=>match len,ps with
    | 0,[]=>K e []
    | 0,_::_=>False
    | len+1,ps=>fQ (Nat.ble ((len+1)*te.size) 16777216&&Nat.blt 0 ((len+1)*te.size)&&z.cells.size==te.size)
     (match rY (λi=>some (i*te.size,te.size)) (List.replicate (len+1) z.cells.toList).flatten ps with
     | some cs=>K e cs
     | none=>False)
   | none=>False
  | none=>False
 | _=>False
def eK (P:Program)(o:Op)(ty:TypeId)(ρ:Env)(h:Hp)(K:Value->Hp->Prop):Prop:=
 match o with
 | .store t a x=>wv (ev ρ a) λva=>wv (ev ρ x) λvx=>match va with
  | .pointer (some a)=>bif vC P t then fQ ((P.info? t).isSome&&P.cellsOf t==1) (iS vx/\dU a vx h λh'=>K undef h')
   else fQ ((P.info? t).isSome&&vx.cells.size==P.cellsOf t) (yB vx.cells.toList (B9 a vx.cells.toList h λh'=>K undef h'))
  | _=>False
 | .alloc e=>match P.info? e with
  | some te=>match te.zero with
   | some z=>Nw (.cells z.cells e (0,0)) h λa h'=>K (.pointer (some a)) h'
   | none=>False
  | none=>False
 | .box e x=>wv (ev ρ x) λv=>bif vC P e then iS v/\Nw (.cells #[v] e (0,0)) h λa h'=>K (.pointer (some a)) h' else Nw (.cells v.cells e (0,0)) h λa h'=>K (.pointer (some a)) h'
 | .buildSlice t len ps=>match Gx ρ ps.toList with
  | some vs=>CG P t len vs λe cs=>Nw (.cells cs.toArray e (0,0)) h λa h'=>K (.slice (some a) len len) h'
  | none=>False
 | .makeMap t r=>match r with
  | none=>Nw (.map #[] 0) h λa h'=>K (.map (some a.block)) h'
  | some _=>False
 | .makeSlice t l c=>wv (ev ρ l) λvl=>wv (ev ρ c) λvc=>match P.underlying t,vl,vc with
  | some (.slice e),.int .i64 n,.int .i64 m=>match P.info? e with
   | some te=>match te.zero with
    | some z=>fQ (z.cells.size==te.size&&Nat.blt 0 te.size) (Mk n m te.bytes e z.cells.toList h λs h'=>K (.slice s.a s.len s.cap) h')
    | none=>False
   | none=>False
  | _,_,_=>False
 | .range t x=>wv (ev ρ x) λv=>rT P t λki c=>match v with
  | .map m=>oW ki c m h λa h'=>K (.pointer (some a)) h'
  | _=>False
 | .mapUpdate t m k x=>wv (ev ρ m) λvm=>wv (ev ρ k) λvk=>wv (ev ρ x) λvx=>rT P t λki c=>match vm,vk with
  | .map m,.int k' n=>if ki=k' then m5 c vx λx=>kH ki c m n x h λh'=>K undef h' else False
  | _,_=>False
 | .call c=>match c.callee,pY ρ c.args.toList,c.argTypes.toList with
  | .value (.func f),some args,_=>CS P f args h K
  | .value g,some args,_=>wv (ev ρ g) λvg=>m5 .fn vg λfv=>Bv P fv args ty h K
  | .invoke r name,some args,_=>wv (ev ρ r) λvr=>Av P vr name args ty h K
  | .builtin .append,some [.slice sa sn sc,.slice xa xn xc],[t,t']=>match P.underlying t with
   | some (.slice e)=>match P.info? e with
    | some te=>match te.zero with
     | some z=>fQ (Nat.beq t t'&&z.cells.size==te.size&&Nat.blt 0 te.size) (App ⟨sa,sn,sc⟩ te.size te.bytes e z.cells.toList ⟨xa,xn,xc⟩ h λs h'=>K (.slice s.a s.len s.cap) h')
     | none=>False
    | none=>False
   | _=>False
  | .builtin .delete,some [.map m,.int k' n],t::_=>rT P t λki c=>if ki=k' then lG ki c m n h λh'=>K (.tuple #[]) h' else False
  | .builtin .append,some [.slice sa sn sc,.int .i64 n],[t,t']=>match P.underlying t,P.underlying t' with
   | some (.slice e),some (.int _)=>match P.info? e with
    | some te=>match te.zero with
     | some z=>fQ (z.cells.size==te.size&&Nat.blt 0 te.size) (sN ⟨sa,sn,sc⟩ te.size te.bytes e z.cells.toList n h λs h'=>K (.slice s.a s.len s.cap) h')
     | none=>False
    | none=>False
   | _,_=>False
  | .builtin .copy,some [.slice da dn dc,.slice xa xn xc],t::_=>match P.underlying t with
   | some (.slice e)=>match P.info? e with
    | some te=>rR ⟨da,dn,dc⟩ te.size ⟨xa,xn,xc⟩ h λz h'=>K (.int .i64 z) h'
    | none=>False
   | _=>False
  | .builtin .clear,some [.slice sa sn sc],[t]=>match P.underlying t with
   | some (.slice e)=>match P.info? e with
    | some te=>match te.zero with
     | some z=>fQ (z.cells.size==te.size&&Nat.blt 0 te.size) (AV ⟨sa,sn,sc⟩ z.cells.toList h λh'=>K (.tuple #[]) h')
     | none=>False
    | none=>False
   | _=>False
  | _,_,_=>False
 | _=>False
def su (P:Program)(o:Op)(ty:TypeId)(ρ:Env)(h:Hp)(K:Value->Hp->Prop):Prop:=
 bif tU o then qK P o ρ h (λv=>K v h)else eK P o ty ρ h K
theorem F3:∀{vs:List Value} {A:Prop},yB vs A->A/\∀v∈vs,dR v=true
 | [],A,h=>⟨h,by simp⟩
 | v::vs,A,h=>by
  have h1:dR v=true/\yB vs A:=by cases v<;>first|exact h.elim|exact⟨rfl,h⟩
  obtain⟨d,b⟩:=F3 h1.2;exact⟨d,λu a=>by
   rcases zX.1 a with rfl|a
   ·exact h1.1
   ·exact b u a⟩
theorem Xt.refl (w:World):Xt w w:=⟨rfl,rfl,rfl,zD _⟩
theorem Xt.trans {a b c:World}(h:Xt a b)(k:Xt b c):Xt a c:=⟨k.1.trans h.1,k.2.1.trans h.2.1,k.2.2.1.trans h.2.2.1,j9 h.2.2.2 k.2.2.2⟩
theorem Vw (h:Hp)(a:Addr)(v:Value):(jX h a v).size=h.size:=by simp[jX]
theorem Jo {P:Program}{w:World}{a:Addr}{v:Value}(ho:dR v=true)(h1:(cell w.heap a).isSome=true)(h2:od w.heap a=false):(store a v).run P w=.ok () (w.setCell a v):=by
 obtain⟨u,d⟩:=oA.1 h1;have e:w.cell? a=some u:=d;have b:w.frozen? a=false:=h2;cases v<;>simp[dR]at ho<;>simp[store,Sem.run,e,b]
theorem H6 {P:Program}:∀{vs:List Value} {w:World} {a:Addr} {i:Nat} {K:aP},(∀v∈vs,dR v=true)->qc a w.heap vs i K →
 ∃w',(storeCells a vs i).run P w=.ok () w'/\Xt w w'/\K w'.heap
 | [],w,a,i,K,_,h=>⟨w,by simp[storeCells],.refl _,h⟩
 | v::vs,w,a,i,K,ho,h=>by
  obtain⟨h1,h2,h3⟩:=h;have j:=Jo (P:=P) (ho v aA) h1 h2;obtain⟨w',e,g,d⟩:=H6 (P:=P) (w:=w.setCell (a.add i) v) (λu m=>ho u (by simp[m])) h3;refine⟨w',?_,Xt.trans (b:=w.setCell (a.add i) v) ⟨rfl,rfl,rfl,Nat.le_of_eq (Vw w.heap (a.add i) v).symm⟩ g,d⟩;simp only[storeCells,Sem.run_bind,j,Result.andThen_ok,e]
theorem J8 {P:Program}{vs:List Value}{w:World}{a:Addr}{K:aP}(ho:∀v∈vs,dR v=true)(h:B9 a vs w.heap K) :
 ∃w',(storeCells a vs).run P w=.ok () w'/\Xt w w'/\K w'.heap:=by
 refine H6 ho ?_;unfold B9 at h;split at h
 ·simpa[qc,Addr.add_zero']using h
 ·exact h
def Ke (P:Program)(s:Sem Next)(w:World)(K:Value->Hp->Prop):Prop:=
 (∃v w',s.run P w=.ok (.value v) w'/\Xt w w'/\K v w'.heap) ∨
 (∃w',s.run P w=.ok .skip w'/\Xt w w'/\K undef w'.heap) ∨
 (∃f args rs R,s.run P w=.ok (.enter f args) w/\Wi P f args rs w.heap R/\∀vs h',Sat (eU rs) R vs h'->K (pack rs vs) h')
theorem Ke.upon {P:Program}{o:Oper}{a:Act}{w:World}{K:Value->Hp->Prop}{next:Act->World->Prop}{Q:Exit->Act->World->Prop}
 (h:Ke P (execOp a.eval o) w K) (hn:∀v w',Xt w w'->K v w'.heap->next (a.put o.dst v) w'):o.wp P a w next Q:=by
 unfold Oper.wp;rcases h with⟨v,w',hr,b,hK⟩|⟨w',hr,b,hK⟩|⟨f,args,rs,R,hr,hc,hK⟩
 ·rw[hr];exact hn _ _ b hK
 ·rw[hr];exact hn _ _ b hK
 ·rw[hr];refine(hc w rfl).mono λe w' ⟨b,vs,d,g⟩=>?_;subst d;exact hn _ _ b (hK _ _ g)
theorem VL {P:Program}{f:Nat}(h:V9 P f=true)(args:Array Value)(w:World):(callFunc f args).run P w=.ok (.enter f args) w:=by
 unfold V9 at h;split at h
 ·rename_i fn hf;simp only[zE,mM,mB]at h;obtain⟨a,b⟩:=h;obtain⟨c,d⟩:=oA.1 b;simp[callFunc,hf,a,d]
 ·cases h
theorem S8 {P:Program}{f:Nat}{args:List Value}{w:World}{K:Value->Hp->Prop}(h:CS P f args w.heap K):Ke P (callFunc f args.toArray) w K:=by
 unfold CS at h;split at h
 ·split at h
  ·rename_i rs hrs;split at h
   ·rename_i hc;exact .inr (.inr ⟨f,_,rs,_,VL hc _ _,h,λvs j e=>Uj e⟩)
   ·split at h
    ·obtain⟨b,a,g,i,d⟩:=h w rfl;exact .inl ⟨_,a,g,i,d⟩
    ·exact h.elim
  ·exact h.elim
 ·exact h.elim
theorem PT {P:Program}{fv:Fv}{args:List Value}{ty:Nat}{w:World}{K:Value->Hp->Prop}(h:Bv P fv args ty w.heap K) :
 Ke P (callFunc fv.f (fv.first++args.toArray++fv.captured)) w K:=by
 unfold Bv at h;split at h
 ·rename_i rs _;exact .inr (.inr ⟨_,_,rs,_,VL h.1 _ _,h.2,λvs b a=>Uj a⟩)
 ·exact h.elim
theorem Tl {P:Program}{v:Value}{name:String}{args:List Value}{ty:Nat}{w:World}{K:Value->Hp->Prop}(h:Av P v name args ty w.heap K) :
 Ke P (callMethod v name args.toArray) w K:=by
 unfold Av at h;split at h
 ·rename_i rs _;obtain⟨t,u,f,rfl,d,a,h⟩:=h;refine .inr (.inr ⟨f,_,rs,_,?_,h,λvs e b=>Uj b⟩);simp only[callMethod,Sem.run_bind,run_program,Result.andThen_ok,d,a];simp
 ·exact h.elim
theorem B7 {P:Program}{t:Nat}{K:IntKind->CK->Prop}(h:rT P t K):∃kt et k c,P.underlying t=some (.map kt et)/\P.underlying kt=some (.int k)/\K k c:=by
 unfold rT at h;split at h
 ·split at h
  ·exact⟨_,_,_,_,by assumption,by assumption,h⟩
  ·exact h.elim
 ·exact h.elim
theorem UN (w:World)(o:Obj):Xt w {w with heap:=w.heap.push o}:=⟨rfl,rfl,rfl,by simp⟩
theorem HO (h:Hp)(r:Nat)(o:Obj):QR h (h.setIfInBounds r o) r:=⟨by simp,λb a=>by rw[yf (Ne.symm a)]⟩
theorem Jp {es:List MapEntry}{k:IntKind}{c:CK}:∀(l:List (Int×c.T)) (es:List MapEntry) (j:Nat) (n:Int) (x:c.T),
 es.map (λe=>(e.key,e.val))=l.map (λx=>(Value.int k x.1,c.v x.2))->(l.map (·.1)).Nodup->l.findIdx? (λx=>x.1==n)=some j →
 (es.modify j λe=>{e with key:=.int k n,val:=c.v x}).map (λe=>(e.key,e.val))=(l.map λy=>if y.1==n then(n,x)else y).map (λx=>(Value.int k x.1,c.v x.2))
 | [],es,j,n,x,he,hn,hj=>by simp at hj
 | y::l,[],j,n,x,he,hn,hj=>by simp at he
 | y::l,e::es,j,n,x,he,hn,hj=>by
  simp only[zS,List.cons.injEq]at he;simp only[zS,zt]at hn;simp only[wk]at hj;cases hy:y.1==n
  ·rw[hy]at hj;simp only[zZ,zp,nR]at hj;obtain⟨j',hj',rfl⟩:=hj;have:=Jp (es:=es) l es j' n x he.2 hn.2 hj';simp only[List.modify_succ_cons,zS,this,hy,he.1];simp
  ·rw[hy]at hj;simp at hj;subst hj;have a:y.1=n:=by simpa using hy
   simp only[List.modify_zero_cons,zS,hy,zR,List.cons.injEq,tD,he.2]
   congr 1
   have:∀z∈l,(z.1==n)=false:=by
    intro z hz;have:z.1≠y.1:=λe=>hn.1 (by rw[←e];exact xS hz);simpa[a]using this
   have e:l=l.map λz=>if z.1==n then(n,x)else z:=by
    conv=>lhs;rw[←uJ l]
    apply ke;intro z hz;simp[this z hz]
   exact e
theorem Ot {α:Type}{l:List (Int×α)}{n:Int}{j:Nat}(h:l.findIdx? (λx=>x.1==n)=some j):l.any (λx=>x.1==n)=true:=by
 obtain⟨x,a,rfl⟩:=UH h;rw[zy];exact⟨x,zG a,by simp⟩
theorem GO {α:Type}{l:List (Int×α)}{n:Int}(h:l.findIdx? (λx=>x.1==n)=none):l.any (λx=>x.1==n)=false:=by
 rw[uB]at h;rw[mc];simpa using h
theorem gO {α:Type}{l:List (Int×α)}{n:Int}{x:α}(hn:(l.map (·.1)).Nodup):((dB l n x).map (·.1)).Nodup:=by
 unfold dB;split
 ·have:(l.map λy=>if y.1==n then(n,x)else y).map (·.1)=l.map (·.1):=by
   rw[lB];apply ke;intro y _;simp only[Function.comp];split
   ·rename_i h;simp at h;exact h.symm
   ·rfl
  rwa [this]
 ·rename_i h;rw[jU,nT];refine⟨hn,by simp,?_⟩;intro a ha b hb;simp at hb;subst hb;rintro rfl;obtain⟨y,d,rfl⟩:=zF.1 ha;exact h (zy.2 ⟨y,d,by simp⟩)
theorem Nx {P:Program}{t kt et:Nat}{k:IntKind}{c:CK}(hu:P.underlying t=some (.map kt et))(hk:P.underlying kt=some (.int k)){r:Nat}{l:List (Int×c.T)}{n:Int}{x:c.T}{w:World}
 (hm:dJ w.heap r k c l):∃w',(Instr.mapUpdate t (.map (some r)) (.int k n) (c.v x)).run P w=.ok () w'/\Xt w w'/\QR w.heap w'.heap r/\dJ w'.heap r k c (dB l n x):=by
 obtain⟨es,d,z,i,A,F,E⟩:=hm;have D:r<w.heap.size:=(jP.1 z).1;have g:∀o,(w.heap.setIfInBounds r o)[r]?=some o:=λo=>by simp[D]
 cases hf:l.findIdx? (λx=>x.1==n)with
 | some j=>
  obtain⟨y,G,B⟩:=UH hf;have J:j<l.length:=(cZ.1 G).1;have p:es.toList.length=l.length:=by simpa using congrArg List.length i
  have u:j<es.size:=by simp at p;omega
  have s:es[j].key=.int k n:=by
   have:=congrArg (λl=>l[j]?) i;simp only[za,G,ze]at this;rw[yJ,Array.getElem?_eq_getElem u]at this;simp at this;rw[this.1,B]
  refine⟨{w with heap:=w.heap.setIfInBounds r (.map (es.modify j λe=>{e with key:=.int k n,val:=c.v x}) d)},?_,⟨rfl,rfl,rfl,by simp⟩,HO _ _ _,?_⟩
  ·simp only[Instr.mapUpdate,Sem.run_bind,run_underlying hu,Result.andThen_ok,QZ hk,getObj,Sem.run,z,KV hk i,hf];simp[Array.getElem?_eq_getElem u,s,Instr.keyThatStays,Instr.sameBits,setObj,Sem.run,z]
  ·refine⟨_,d,g _,?_,gO A,?_,?_⟩
   ·rw[B0,Jp (es:=[]) l es.toList j n x i A hf];simp[dB,Ot hf]
   ·have:(es.modify j λe=>{e with key:=.int k n,val:=c.v x}).toList.map (·.born)=es.toList.map (·.born):=by
     rw[B0];apply zo;intro m;simp only[za,tu];cases es.toList[m]?<;>simp
     split<;>rfl
    rw[this];exact F
   ·intro e he';have:e.born∈(es.modify j λe=>{e with key:=.int k n,val:=c.v x}).toList.map (·.born):=xS he';have e2:(es.modify j λe=>{e with key:=.int k n,val:=c.v x}).toList.map (·.born)=es.toList.map (·.born):=by
     rw[B0];apply zo;intro m;simp only[za,tu];cases es.toList[m]?<;>simp
     split<;>rfl
    rw[e2]at this;obtain⟨H,K,L⟩:=zF.1 this;rw[←L];exact E H K
 | none=>
  refine⟨{w with heap:=w.heap.setIfInBounds r (.map (es.push {key:=.int k n,val:=c.v x,born:=d}) (d+1))},?_,⟨rfl,rfl,rfl,by simp⟩,HO _ _ _,?_⟩
  ·simp only[Instr.mapUpdate,Sem.run_bind,run_underlying hu,Result.andThen_ok,QZ hk,getObj,Sem.run,z,KV hk i,hf];simp[setObj,Sem.run,z]
  ·refine⟨_,d+1,g _,?_,gO A,?_,?_⟩
   ·simp[dB,GO hf,i]
   ·simp only[Array.toList_push,jU,zS,rp,pN];refine⟨F,by simp,?_⟩;intro a ha b hb';simp at hb';subst hb';obtain⟨e,C,rfl⟩:=zF.1 ha;exact E e C
   ·intro e he';simp only[Array.toList_push,zK,zP]at he';rcases he' with h|rfl
    ·have:=E e h;omega
    ·simp
theorem IG {k:IntKind}{c:CK}:∀(l:List (Int×c.T)) (es:List MapEntry) (j:Nat) (n:Int),
 es.map (λe=>(e.key,e.val))=l.map (λx=>(Value.int k x.1,c.v x.2))->(l.map (·.1)).Nodup->l.findIdx? (λx=>x.1==n)=some j →
 (es.eraseIdx j).map (λe=>(e.key,e.val))=(cT l n).map (λx=>(Value.int k x.1,c.v x.2))
 | [],es,j,n,he,hn,hj=>by simp at hj
 | y::l,[],j,n,he,hn,hj=>by simp at he
 | y::l,e::es,j,n,he,hn,hj=>by
  simp only[zS,List.cons.injEq]at he;simp only[zS,zt]at hn;simp only[wk]at hj;cases hy:y.1==n
  ·rw[hy]at hj;simp only[zZ,zp,nR]at hj;obtain⟨j',hj',rfl⟩:=hj;have:=IG l es j' n he.2 hn.2 hj';simp only[List.eraseIdx_cons_succ,zS,this,cT,tM,hy,he.1];simp
  ·rw[hy]at hj;simp at hj;subst hj;have a:y.1=n:=by simpa using hy
   simp only[List.eraseIdx_zero,List.tail_cons,cT,tM,hy,Bool.not_true,zZ,zp,he.2]
   congr 1
   symm
   rw[qW];intro z hz;have:z.1≠y.1:=λe=>hn.1 (by rw[←e];exact xS hz);simpa[a]using this
theorem ε {α:Type}{l:List (Int×α)}{n:Int}(h:l.findIdx? (λx=>x.1==n)=none):cT l n=l:=by
 rw[uB]at h;unfold cT;rw[qW];intro z hz;have:=h z hz;simpa using this
theorem jm {α:Type}{l:List (Int×α)}{n:Int}(hn:(l.map (·.1)).Nodup):((cT l n).map (·.1)).Nodup:=
 hn.sublist (List.Sublist.map _ tf)
theorem Np {P:Program}{t kt et ty:Nat}{k:IntKind}{c:CK}(hu:P.underlying t=some (.map kt et))(hk:P.underlying kt=some (.int k)){m:Option Nat}{l:List (Int×c.T)}{n:Int}{w:World}{ats:List Nat}
 (hm:jo w.heap m k c l):∃w',(Builtin.delete_ (t::ats).toArray ty #[.map m,.int k n]).run P w=.ok (.tuple #[]) w'/\Xt w w'/\(∀r,m=some r->QR w.heap w'.heap r)/\(m=none->w'.heap=w.heap)/\jo w'.heap m k c (cT l n):=by
 cases m with
 | none=>
  simp only[jo]at hm;subst hm;exact⟨w,by simp[Builtin.delete_,run_underlying hu,QZ hk],.refl _,λr h=>(by cases h),λ_=>rfl,rfl⟩
 | some r=>
  obtain⟨d,a,p,g,i,u,y⟩:=hm;have s:r<w.heap.size:=(jP.1 p).1;have b:∀o,(w.heap.setIfInBounds r o)[r]?=some o:=λo=>by simp[s]
  cases hf:l.findIdx? (λx=>x.1==n)with
  | some j=>
   refine⟨{w with heap:=w.heap.setIfInBounds r (.map (d.eraseIdxIfInBounds j) a)},?_,⟨rfl,rfl,rfl,by simp⟩,λz h=>(by cases h;exact HO _ _ _),(λh=>by cases h),?_⟩
   ·simp[Builtin.delete_,run_underlying hu,QZ hk,getObj,Sem.run,p,KV hk g,hf,setObj]
   ·refine⟨_,a,b _,?_,jm i,?_,?_⟩
    ·rw[Bo];exact IG l d.toList j n g i hf
    ·rw[Bo];exact u.sublist (List.Sublist.map _ (List.eraseIdx_sublist _ _))
    ·rw[Bo];intro e he';exact y e ((List.eraseIdx_sublist _ _).mem he')
  | none=>
   refine⟨{w with heap:=w.heap.setIfInBounds r (.map d a)},?_,⟨rfl,rfl,rfl,by simp⟩,λz h=>(by cases h;exact HO _ _ _),(λh=>by cases h),?_⟩
   ·simp[Builtin.delete_,run_underlying hu,QZ hk,getObj,Sem.run,p,KV hk g,hf,setObj]
   ·rw[ε hf];exact⟨d,a,b _,g,i,u,y⟩
theorem uL {P:Program}{w:World}{sz n:Nat}{s:Sl}{xs:List Value}(hl:xs.length=s.len*sz)(h:Rd w.heap s.a xs)(hn:n=s.len) :
 (Builtin.firstCells sz n (.slice s.a s.len s.cap)).run P w=.ok xs.toArray w:=by
 subst hn;obtain⟨a,len,cap⟩:=s;cases a with
 | none=>simp only[Rd]at h;subst h;simp[Builtin.firstCells]
 | some a=>
  simp only at hl h;simp only[Builtin.firstCells];rw[←hl];have:=run_loadCells_list (P:=P) (w:=w) a xs (λj v b=>h j v b);exact this
theorem VO {z:Array Value}(hz:0<z.size):∀n,Builtin.zeroCells z n=(List.replicate n z.toList).flatten.toArray:=by
 intro n;apply Array.ext';simp only[Builtin.zeroCells,Array.toList_map,Array.toList_range]
 induction n with
 | zero=>simp
 | succ n ih=>
  rw[Cj,List.flatten_append];simp only[vu,List.flatten_nil,lC];rw[←ih];rw[Nat.succ_mul,List.range_add,jU,lB]
  congr 1
  apply List.ext_getElem
  ·simp
  ·intro i h1 h2;simp at h1 h2;simp[vv h1,h1]
theorem Ff (n c:Nat)(h:¬n<=c):Builtin.nextslicecap n c<=2*n:=by
 unfold Builtin.nextslicecap;split
 ·omega
 ·split
  ·omega
  ·have key:∀r c,c<=2*n->(Builtin.growBy n r c)<=2*n:=by
    intro r
    induction r with
    | zero=>intro c hc;simpa[Builtin.growBy]using hc
    | succ r ih=>
     intro c hc;simp only[Builtin.growBy];split
     ·exact hc
     ·exact ih _ O
   exact key _ _ O
theorem OZ {P:Program}{t e ty:Nat}{te:TypeInfo}{z:Value}{s x:Sl}{K:Sl->Hp->Prop}{w:World}(hu:P.underlying t=some (.slice e))(hi:P.info? e=some te)(hz:te.zero=some z)(hzs:z.cells.size=te.size)(hpos:0<te.size)
 (h:App s te.size te.bytes e z.cells.toList x w.heap K) :
 ∃r w',(Builtin.append_ #[t,t] ty #[.slice s.a s.len s.cap,.slice x.a x.len x.cap]).run P w=.ok (.slice (Sl.a r) r.len r.cap) w'/\Xt w w'/\K r w'.heap:=by
 obtain⟨H,F,J,N,G,L,A,W,V,b,d⟩:=h;have p:=uL (P:=P) (n:=s.len) J G rfl;have i:=uL (P:=P) (n:=x.len) N L rfl;by_cases hroom:s.len+x.len<=s.cap
 ·have b:=b hroom;cases hsa:s.a with
  | some a=>
   rw[hsa]at b;obtain⟨w',R,S,D⟩:=H6 (P:=P) A b;rw[hsa]at p;refine⟨⟨some a,s.len+x.len,s.cap⟩,w',?_,S,D⟩;simp[Builtin.append_,run_underlying hu,sizeOf,typeInfo,hi,Builtin.lenOf,hroom,i,R]
  | none=>
   rw[hsa]at b;rw[hsa]at p;refine⟨⟨none,s.len+x.len,s.cap⟩,w,?_,.refl _,b⟩;simp[Builtin.append_,run_underlying hu,sizeOf,typeInfo,hi,Builtin.lenOf,hroom,i]
 ·have d:=d hroom;have j:¬(2^48<Builtin.nextslicecap (s.len+x.len) s.cap*te.bytes):=by
   have:=Ff (s.len+x.len) s.cap hroom;have:Builtin.nextslicecap (s.len+x.len) s.cap*te.bytes<=2*(s.len+x.len)*te.bytes:=ma _ this;rw[vL]at this;omega
  have M:¬(IntKind.i64.max<((s.len+x.len:Nat):Int)):=by
   have:IntKind.i64.max=9223372036854775807:=by decide
   rw[this];omega
  have E:¬(IntKind.i64.max<((s.len:Int)+(x.len:Int))):=by
   have:IntKind.i64.max=9223372036854775807:=by decide
   rw[this];omega
  have B:=VO (z:=z.cells) O;have y:s.cap<s.len+x.len:=by omega
  have g:¬(281474976710656<Builtin.nextslicecap (s.len+x.len) s.cap*te.bytes):=by simpa using j
  let q:=Question.appendCap (s.len+x.len) s.cap e
  let c:=q.cut (w.tape w.drawn q)
  have Q:s.len+x.len<=c:=by simp only[c,q,Question.cut];omega
  have D:=d c Q;refine⟨⟨some ⟨w.heap.size,0,none⟩,s.len+x.len,c⟩,{w with drawn:=w.drawn+1,heap:=w.heap.push (.cells (H++F++(List.replicate (c-(s.len+x.len)) z.cells.toList).flatten).toArray e (0,0))},?_,⟨rfl,rfl,rfl,by simp⟩,D⟩;have U:(Question.appendCap (s.len+x.len) s.cap e).forced=false:=rfl;have C:¬(9223372036854775807<(s.len:Int)+(x.len:Int)):=by omega
  have u:=uL (P:=P) (w:=w.drew) (n:=s.len) J (show Rd w.drew.heap s.a H from G) rfl;have m:=uL (P:=P) (w:=w.drew) (n:=x.len) N (show Rd w.drew.heap x.a F from L) rfl;simp[Builtin.append_,run_underlying hu,sizeOf,typeInfo,hi,Builtin.lenOf,hroom,C,U,g,u,m,zeroValue,hz,B,newRow];refine⟨rfl,?_⟩;unfold World.alloc World.drew;simp[c,q]
theorem Oc {P:Program}{t t' e ty:Nat}{te:TypeInfo}{z:Value}{s:Sl}{n:Int}{ki:IntKind}{K:Sl->Hp->Prop}{w:World}(hu:P.underlying t=some (.slice e))(hu':P.underlying t'=some (.int ki))(hi:P.info? e=some te)(hz:te.zero=some z)(hzs:z.cells.size=te.size)(hpos:0<te.size)
 (h:sN s te.size te.bytes e z.cells.toList n w.heap K) :
 ∃r w',(Builtin.append_ #[t,t'] ty #[.slice s.a s.len s.cap,.int .i64 n]).run P w=.ok (.slice (Sl.a r) r.len r.cap) w'/\Xt w w'/\K r w'.heap:=by
 obtain⟨J,W,X,V,Q,h5,Z,h7,i,m⟩:=h;obtain⟨n,rfl⟩:=zc J;simp only[dD]at h5 Z h7 i m;have F:=uL (P:=P) (n:=s.len) X V rfl;have H:∀v∈(List.replicate n z.cells.toList).flatten,dR v=true:=by
  intro v G;simp only[List.mem_flatten,yT]at G;obtain⟨l,⟨_,rfl⟩,G⟩:=G;exact Q v G
 have B:IntKind.i64.wrap (n:Int)=n:=by unfold IntKind.wrap;simp[IntKind.bits,IntKind.signed];omega
 have D:IntKind.i64.wrap 0=0:=by decide
 have u:=VO (z:=z.cells) O;have C:¬((n:Int)<0):=by omega
 have N:¬((n:Int)*(te.bytes:Int)>2^48):=by
  have:(2:Int)^46<=2^48:=by decide
  omega
 have p:¬(281474976710656<(n:Int)*(te.bytes:Int)):=by simpa using N
 have U:n*te.size=0->(List.replicate n z.cells.toList).flatten=[]:=by
  intro h0;rcases vn.1 h0 with h|h
  ·subst h;simp
  ·omega
 by_cases hroom:s.len+n<=s.cap
 ·have i:=i hroom;cases hsa:s.a with
  | some a=>
   rw[hsa]at i;obtain⟨w',L,io,M⟩:=H6 (P:=P) H i;rw[hsa]at F;refine⟨⟨some a,s.len+n,s.cap⟩,w',?_,io,M⟩;by_cases hn:n*te.size=0
   ·have:=U hn;rw[this]at L;rcases vn.1 hn with hn'|hn'
    ·subst hn';have b:s.len<=s.cap:=by simpa using hroom
     simp[Builtin.append_,run_underlying hu,run_underlying hu',sizeOf,typeInfo,hi,Builtin.lenOf,b,asInt,asIntOf,D,L]
    ·omega
   ·have d:¬n=0:=λe=>hn (by rw[e];simp);have g:¬te.size=0:=by omega
    simp[Builtin.append_,run_underlying hu,run_underlying hu',sizeOf,typeInfo,hi,Builtin.lenOf,hroom,L,asInt,asIntOf,B,C,p,hn,d,g,zeroValue,hz,u]
  | none=>
   rw[hsa]at i;rw[hsa]at F;refine⟨⟨none,s.len+n,s.cap⟩,w,?_,.refl _,i⟩;by_cases hn:n*te.size=0
   ·rcases vn.1 hn with hn'|hn'
    ·subst hn';have b:s.len<=s.cap:=by simpa using hroom
     simp[Builtin.append_,run_underlying hu,run_underlying hu',sizeOf,typeInfo,hi,Builtin.lenOf,b,asInt,asIntOf,D]
    ·omega
   ·have d:¬n=0:=λe=>hn (by rw[e];simp);have g:¬te.size=0:=by omega
    simp[Builtin.append_,run_underlying hu,run_underlying hu',sizeOf,typeInfo,hi,Builtin.lenOf,hroom,asInt,asIntOf,B,C,p,hn,d,g,zeroValue,hz,u]
 ·have m:=m hroom;have y:¬(2^48<Builtin.nextslicecap (s.len+n) s.cap*te.bytes):=by
   have:=Ff (s.len+n) s.cap hroom;have:Builtin.nextslicecap (s.len+n) s.cap*te.bytes<=2*(s.len+n)*te.bytes:=ma _ this;rw[vL]at this;omega
  have j:¬(281474976710656<Builtin.nextslicecap (s.len+n) s.cap*te.bytes):=by simpa using y
  let q:=Question.appendCap (s.len+n) s.cap e
  let c:=q.cut (w.tape w.drawn q)
  have Y:s.len+n<=c:=by simp only[c,q,Question.cut];omega
  have M:=m c Y;refine⟨⟨some ⟨w.heap.size,0,none⟩,s.len+n,c⟩,{w with drawn:=w.drawn+1,heap:=w.heap.push (.cells (W++(List.replicate n z.cells.toList).flatten++(List.replicate (c-(s.len+n)) z.cells.toList).flatten).toArray e (0,0))},?_,⟨rfl,rfl,rfl,by simp⟩,M⟩;have hf:(Question.appendCap (s.len+n) s.cap e).forced=false:=rfl;have S:¬(9223372036854775807<(s.len:Int)+(n:Int)):=by omega
  have x:=uL (P:=P) (w:=w.drew) (n:=s.len) X (show Rd w.drew.heap s.a W from V) rfl;by_cases hn:n*te.size=0
  ·rcases vn.1 hn with hn'|hn'
   ·subst hn';have b:¬s.len<=s.cap:=by simpa using hroom
    have A:¬(281474976710656<Builtin.nextslicecap s.len s.cap*te.bytes):=by simpa using j
    have R:(Question.appendCap s.len s.cap e).forced=false:=rfl;have E:¬(9223372036854775807<(s.len:Int)):=by omega
    simp[Builtin.append_,run_underlying hu,run_underlying hu',sizeOf,typeInfo,hi,Builtin.lenOf,b,E,R,A,x,zeroValue,hz,u,newRow,asInt,asIntOf,D];refine⟨rfl,?_⟩;unfold World.alloc World.drew;simp[c,q]
   ·omega
  ·have d:¬n=0:=λe=>hn (by rw[e];simp);have g:¬te.size=0:=by omega
   simp[Builtin.append_,run_underlying hu,run_underlying hu',sizeOf,typeInfo,hi,Builtin.lenOf,hroom,S,hf,j,x,zeroValue,hz,u,newRow,asInt,asIntOf,B,C,p,hn,d,g];refine⟨rfl,?_⟩;unfold World.alloc World.drew;simp[c,q]
theorem PU {P:Program}{t e ty:Nat}{ats:List TypeId}{te:TypeInfo}{d s:Sl}{K:aN}{w:World}(hu:P.underlying t=some (.slice e))(hi:P.info? e=some te)
 (h:rR d te.size s w.heap K):∃z w',(Builtin.copy_ (t::ats).toArray ty #[.slice d.a d.len d.cap,.slice s.a s.len s.cap]).run P w=.ok (.int .i64 z) w'/\Xt w w'/\K z w'.heap:=by
 obtain⟨p,r,m,y,i⟩:=h;have g:(Builtin.firstCells te.size (min s.len d.len) (.slice s.a s.len s.cap)).run P w=.ok p.toArray w:=by
  obtain⟨a,len,cap⟩:=s;cases a with
  | none=>simp only[Rd]at m;subst m;simp[Builtin.firstCells]
  | some a=>
   simp only at r m;simp only[Builtin.firstCells];rw[←r];exact run_loadCells_list (P:=P) (w:=w) a p (λj v x=>m j v x)
 have b:Nat.min s.len d.len=min s.len d.len:=rfl;cases hda:d.a with
 | none=>
  rw[hda]at i;refine⟨_,w,?_,.refl _,i⟩;simp[Builtin.copy_,run_underlying hu,sizeOf,typeInfo,hi,Builtin.lenOf,g,b,goInt]
 | some a=>
  rw[hda]at i;obtain⟨w',A,B,u⟩:=H6 (P:=P) y i;refine⟨_,w',?_,B,u⟩;simp[Builtin.copy_,run_underlying hu,sizeOf,typeInfo,hi,Builtin.lenOf,g,b,A,goInt]
theorem OK {P:Program}{t e ty:Nat}{te:TypeInfo}{z:Value}{s:Sl}{K:aP}{w:World}(hu:P.underlying t=some (.slice e))(hi:P.info? e=some te)(hz:te.zero=some z)(hzs:z.cells.size=te.size)(hpos:0<te.size)
 (h:AV s z.cells.toList w.heap K):∃w',(Builtin.clear_ #[t] ty #[.slice s.a s.len s.cap]).run P w=.ok (.tuple #[]) w'/\Xt w w'/\K w'.heap:=by
 obtain⟨i,h⟩:=h;have d:=VO (z:=z.cells) O;obtain⟨a,len,cap⟩:=s;cases a with
 | none=>exact⟨w,by simp[Builtin.clear_,run_underlying hu],.refl _,h⟩
 | some a=>
  simp only at h;cases len with
  | zero=>
   simp[qc]at h;exact⟨w,by simp[Builtin.clear_,run_underlying hu],.refl _,h⟩
  | succ n=>
   obtain⟨w',j,m,g⟩:=H6 (P:=P) (λv b=>by
    simp only[List.mem_flatten,yT]at b;obtain⟨l,⟨_,rfl⟩,b⟩:=b;exact i v b) h
   refine⟨w',?_,m,g⟩;simp[Builtin.clear_,run_underlying hu,zeroValue,typeInfo,hi,hz,d,j]
theorem PD {P:Program}{t len:Nat}{ps:List (Nat×Value)}{K:TypeId->List Value->Prop}(h:CG P t len ps K):∃e te z cs,P.underlying t=some (.slice e)/\P.info? e=some te/\te.zero=some z/\K e cs ∧
 ((len=0/\ps=[]/\cs=[])\/(len*te.size<=16777216/\0<len*te.size/\z.cells.size=te.size/\rY (λi=>some (i*te.size,te.size)) (List.replicate len z.cells.toList).flatten ps=some cs)):=by
 unfold CG at h;split at h
 case h_2=>exact h.elim
 rename_i e hu;split at h
 case h_2=>exact h.elim
 rename_i te hi;split at h
 case h_2=>exact h.elim
 rename_i z hz;split at h
 ·exact⟨e,te,z,[],hu,hi,hz,h,.inl ⟨rfl,rfl,rfl⟩⟩
 ·exact h.elim
 ·rw[WK]at h;obtain⟨a,h⟩:=h;simp only[zE,zT]at a;split at h
  case h_2=>exact h.elim
  rename_i cs hf;exact⟨e,te,z,cs,hu,hi,hz,h,.inr ⟨ym a.1.1,Nat.blt_eq.mp a.1.2,a.2,hf⟩⟩
theorem JC {z:Array Value}(hz:0<z.size)(n:Nat):((Array.range (n*z.size)).map (z[· % z.size]!))=(List.replicate n z.toList).flatten.toArray:=VO hz n
theorem TE {P:Program}{ρ:Env}{K:Value->Hp->Prop}{a:Act}{w:World}(hf:∀x v,ev ρ x=some v->a.eval x=v)(o:Oper)(hk:eK P o.op o.type ρ w.heap K) :
 Ke P (execOp a.eval o) w K:=by
 obtain⟨dst,op,ty,pos,after,guard⟩:=o;simp only at hk;have p:∀{s:Sem Value},(∃v B,s.run P w=.ok v B/\Xt w B/\K v B.heap)->Ke P (do pure (Next.value (←s)):Sem Next) w K:=by
  rintro s ⟨v,B,hv,H,D⟩;exact .inl ⟨v,B,by simp[hv],H,D⟩
 have M:∀{s:Sem Unit},(∃B,s.run P w=.ok () B/\Xt w B/\K undef B.heap)->Ke P (do s;pure Next.skip:Sem Next) w K:=by
  rintro s ⟨B,hv,H,D⟩;exact .inr (.inl ⟨B,by simp[hv],H,D⟩)
 unfold eK at hk;split at hk
 case h_1 t x y=>
  obtain⟨va,L,hk0⟩:=WE hk;clear hk;obtain⟨Z,hx,hk⟩:=WE hk0;clear hk0;simp only[execOp,hf _ _ L,hf _ _ hx];split at hk
  ·rename_i ad;cases hraw:vC P t
   case true=>
    rw[hraw]at hk;simp only[cond_true]at hk;rw[WK]at hk;obtain⟨hc,hif,s1,s2,D⟩:=hk;simp only[zE,zT]at hc;obtain⟨h1,X⟩:=hc;apply M;have hone:dR Z=true:=by rcases hif with rfl|⟨t',u,rfl⟩<;>rfl
    have F:Z.cells = #[Z]:=by rcases hif with rfl|⟨t',u,rfl⟩<;>rfl
    have C:=Jo (P:=P) (w:=w) hone s1 s2;refine⟨w.setCell ad Z,?_,⟨rfl,rfl,rfl,Nat.le_of_eq (Vw w.heap ad Z).symm⟩,D⟩;have hr':(storeCells ad #[Z].toList).run P w=.ok () (w.setCell ad Z):=by
     simp only[storeCells,Addr.add_zero',Sem.run_bind,C,Result.andThen_ok];rfl
    simp only[Instr.storeAt,Instr.sureAddr,Sem.run_bind,Sem.run_pure,Result.andThen_ok,storeVar,Q2 h1,X,F,ne_eq,zp];simpa using hr'
   rw[hraw]at hk;simp only[cond_false]at hk;rw[WK]at hk;obtain⟨hc,hk⟩:=hk;simp only[zE,zT]at hc;obtain⟨h1,X⟩:=hc;obtain⟨hk,h3⟩:=F3 hk;apply M;obtain⟨B,C,H,D⟩:=J8 (P:=P) h3 hk;refine⟨B,?_,H,D⟩;simp only[Instr.storeAt,Instr.sureAddr,Sem.run_bind,Sem.run_pure,Result.andThen_ok,storeVar,Q2 h1,X,ne_eq,not_true_eq_false,zp];simpa using C
  ·exact hk.elim
 case h_2 e=>
  split at hk
  case h_2=>exact hk.elim
  rename_i N J;split at hk
  case h_2=>exact hk.elim
  rename_i z S;apply p;refine⟨_,_,?_,UN _ _,hk⟩;simp[Instr.alloc,VK J S,newVar,newRow,newObj,Sem.run]
 case h_3 e x=>
  obtain⟨v,hv,hk⟩:=WE hk;simp only[execOp,hf _ _ hv];apply p;cases hraw:vC P e
  case true=>
   rw[hraw]at hk;simp only[cond_true]at hk;have F:v.cells = #[v]:=by rcases hk.1 with rfl|⟨t',u,rfl⟩<;>rfl
   refine⟨_,_,?_,UN _ _,hk.2⟩;simp[Instr.box,newVar,newRow,newObj,Sem.run,F]
  rw[hraw]at hk;refine⟨_,_,?_,UN _ _,hk⟩;simp[Instr.box,newVar,newRow,newObj,Sem.run]
 case h_4 t len ps=>
  split at hk
  case h_2=>exact hk.elim
  rename_i vs hps;have e1:=Ue hf hps;have d:ps.map (λ(i,x)=>(i,a.eval x))=vs.toArray:=by apply Array.ext';simpa using e1
  obtain⟨e,N,z,cs,E,J,S,hk,hcase⟩:=PD hk;simp only[execOp,d];apply p;refine⟨_,_,?_,UN _ _,hk⟩;rcases hcase with⟨rfl,rfl,rfl⟩|⟨hle,hpos,hzs,hfl⟩
  ·simp only[Instr.buildSlice,Sem.run_bind,run_underlying E,Result.andThen_ok,sizeOf,Uc J,Sem.run_pure,wz];simp[Instr.fill,newRow,newObj,Sem.run,Array.range_zero']
  have hts:0<N.size:=Nat.pos_of_mul_pos_left hpos;have hfill:=UX _ _ _ _ hfl;have V:=JC (z:=z.cells) O len;rw[hzs]at V;have hne:¬(len*N.size=0):=by omega
  have hle':¬(len*N.size>2^24):=by
   have:(2:Nat)^24=16777216:=by decide
   omega
  simp only[Instr.buildSlice,Sem.run_bind,run_underlying E,Result.andThen_ok,sizeOf,Uc J,Sem.run_pure,hle',zp,hne,VK J S,V,hzs,hfill,newRow,newObj,Sem.run]
 case h_5 t r=>
  split at hk
  ·apply p;refine⟨_,_,?_,UN _ _,hk⟩;simp[Instr.makeMap,newObj,Sem.run]
  ·exact hk.elim
 case h_6 t l c=>
  obtain⟨vl,hl,hk⟩:=WE hk;obtain⟨vc,hc,hk⟩:=WE hk;simp only[execOp,hf _ _ hl,hf _ _ hc];split at hk
  case h_2=>exact hk.elim
  rename_i e n m E _;split at hk
  case h_2=>exact hk.elim
  rename_i N J;split at hk
  case h_2=>exact hk.elim
  rename_i z S;rw[WK]at hk;obtain⟨j,h0,h1,X,h3,hk⟩:=hk;simp only[zE,zT]at j;have hpos:0<N.size:=Nat.blt_eq.mp j.2;apply p;refine⟨_,_,?_,UN _ _,hk⟩;have hwn:IntKind.i64.wrap n=n:=by unfold IntKind.wrap;simp[IntKind.bits,IntKind.signed];omega
  have hwm:IntKind.i64.wrap m=m:=by unfold IntKind.wrap;simp[IntKind.bits,IntKind.signed];omega
  have hbig:¬((N.bytes:Int)*m>2^48):=by
   have:(2:Int)^46<=2^48:=by decide
   omega
  have hm0:¬m<0:=by omega
  have hn0:¬n<0:=by omega
  have hnm:¬n>m:=by omega
  have Y:¬m<n:=by omega
  have V:=JC (z:=z.cells) O m.toNat;have hrz2:Array.map (λx=>z.cells[x%z.cells.size]!) (Array.range (m.toNat*N.size))=(List.replicate m.toNat z.cells.toList).flatten.toArray:=by rw[←j.1];exact V
  have U:¬(281474976710656<(N.bytes:Int)*m):=by simpa using hbig
  by_cases hz0:m.toNat*N.size=0
  ·have hmz:m.toNat=0:=by
    rcases vn.1 hz0 with h|h
    ·exact h
    ·omega
   simp[Instr.makeSlice,run_underlying E,Uc J,asInt,asIntOf,hwn,hwm,U,hm0,hn0,hnm,Y,askRoom,mark,sizeOf,hmz,newRow];rw[show Array.range 0 = #[]from rfl];simp
  ·simp[Instr.makeSlice,run_underlying E,Uc J,asInt,asIntOf,hwn,hwm,U,hm0,hn0,hnm,Y,askRoom,mark,sizeOf,hz0,VK J S,newRow,hrz2];intro _;rfl
 case h_7 t x=>
  obtain⟨v,hv,G⟩:=WE hk;obtain⟨kt,et,ki,c,E,W,Q⟩:=B7 G;clear hk G;simp only[execOp,hf _ _ hv];split at Q
  case h_2=>exact Q.elim
  rename_i m;apply p;obtain⟨l,hm,D⟩:=Q;cases m with
  | none=>
   refine⟨_,{w with heap:=w.heap.push (.mapIter none 0 #[] 0)},?_,UN _ _,D _ aA (λb hb=>by simp[vN,xC hb]) ?_⟩
   ·simp[Instr.range,run_underlying E,newObj,Sem.run]
   ·simp only[jo]at hm;exact⟨hm,hm,rfl,0,#[],0,by simp⟩
  | some b=>
   obtain⟨es,clk,C,he,hn,hp,hb⟩:=hm;have hlt:b<w.heap.size:=(jP.1 C).1;refine⟨_,{w with heap:=w.heap.push (.mapIter (some b) clk #[] clk)},?_,UN _ _,D _ aA (λb hb=>by simp[vN,xC hb]) ?_⟩
   ·simp[Instr.range,run_underlying E,newObj,getObj,Sem.run,C]
   ·exact⟨es,clk,#[],by simp,by simp[vN,xC hlt,C],he,hn,hp,hb,by rw[qW.2 (λe _=>by simp)];exact he,λx hx=>by cases hx⟩
 case h_8 t m k x=>
  obtain⟨vm,hm,G⟩:=WE hk;obtain⟨vk,hkk,Q⟩:=WE G;obtain⟨Z,hx,hk3⟩:=WE Q;obtain⟨kt,et,ki,c,E,W,R⟩:=B7 hk3;clear hk G Q hk3;simp only[execOp,hf _ _ hm,hf _ _ hkk,hf _ _ hx];split at R
  ·split at R
   ·rename_i e;subst e;obtain⟨x,rfl,r,l,rfl,hl,D⟩:=VZ R;apply M;obtain⟨B,C,H,ho,hl'⟩:=Nx (P:=P) E W (x:=x) hl;exact⟨B,C,H,D _ ho hl'⟩
   ·exact R.elim
  ·exact R.elim
 case h_9 c=>
  obtain⟨callee,A,ats⟩:=c;simp only at hk;split at hk
  ·rename_i f args' L;have e1:=Z1 hf L;have d:A.map a.eval=args'.toArray:=by apply Array.ext';simpa using e1
   have:=S8 hk;simpa[execOp,resolve,d,Act.eval,Deferred.ofValue,invoke]using this
  ·rename_i g args' _ L;obtain⟨vg,hg,hk⟩:=WE hk;obtain⟨fv,rfl,hk⟩:=VZ hk;have e1:=Z1 hf L;have d:A.map a.eval=args'.toArray:=by apply Array.ext';simpa using e1
   have:=PT hk;simpa[execOp,resolve,d,hf _ _ hg,CK.v,Deferred.ofValue,invoke]using this
  ·rename_i r name args' L;obtain⟨vr,C,hk⟩:=WE hk;have e1:=Z1 hf L;have d:A.map a.eval=args'.toArray:=by apply Array.ext';simpa using e1
   have:=Tl hk;simpa[execOp,resolve,d,hf _ _ C,invoke]using this
  ·rename_i sa sn sc xa xn xc t t' L ht;have e1:=Z1 hf L;have d:A.map a.eval = #[.slice sa sn sc,.slice xa xn xc]:=by apply Array.ext';simpa using e1
   have e2:ats = #[t,t']:=by apply Array.ext';simpa using ht
   subst e2;split at hk
   case h_2=>exact hk.elim
   rename_i e E;split at hk
   case h_2=>exact hk.elim
   rename_i N J;split at hk
   case h_2=>exact hk.elim
   rename_i z S;rw[WK]at hk;obtain⟨j,hk⟩:=hk;simp only[zE,zT]at j;obtain⟨⟨h1,X⟩,h3⟩:=j;have ett:t=t':=jZ h1;subst ett;obtain⟨r,B,C,H,D⟩:=OZ (P:=P) (ty:=ty) E J S X (Nat.blt_eq.mp h3) hk;refine .inl ⟨_,B,?_,H,D⟩;simp only at C;simp[execOp,resolve,d,invoke,builtin,C]
  ·rename_i m k' n t ats' L ht;have e1:=Z1 hf L;have d:A.map a.eval = #[.map m,.int k' n]:=by apply Array.ext';simpa using e1
   have e2:ats=(t::ats').toArray:=by apply Array.ext';simpa using ht
   subst e2;obtain⟨kt,et,ki,c,E,W,G⟩:=B7 hk;clear hk;split at G
   ·rename_i e;subst e;obtain⟨l,hl,D⟩:=G;obtain⟨B,C,H,h1,X,h3⟩:=Np (P:=P) (ty:=ty) (ats:=ats') E W (n:=n) hl;refine .inl ⟨_,B,?_,H,D _ h1 X h3⟩;simp[execOp,resolve,d,invoke,builtin,C]
   ·exact G.elim
  ·rename_i sa sn sc n t t' L ht;have e1:=Z1 hf L;have d:A.map a.eval = #[.slice sa sn sc,.int .i64 n]:=by apply Array.ext';simpa using e1
   have e2:ats = #[t,t']:=by apply Array.ext';simpa using ht
   subst e2;split at hk
   case h_2=>exact hk.elim
   rename_i e ki E hu';split at hk
   case h_2=>exact hk.elim
   rename_i N J;split at hk
   case h_2=>exact hk.elim
   rename_i z S;rw[WK]at hk;obtain⟨j,hk⟩:=hk;simp only[zE,zT]at j;obtain⟨r,B,C,H,D⟩:=Oc (P:=P) (ty:=ty) E hu' J S j.1 (Nat.blt_eq.mp j.2) hk;refine .inl ⟨_,B,?_,H,D⟩;simp only at C;simp[execOp,resolve,d,invoke,builtin,C]
  ·rename_i da dn dc xa xn xc t ats' L ht;have e1:=Z1 hf L;have d:A.map a.eval = #[.slice da dn dc,.slice xa xn xc]:=by apply Array.ext';simpa using e1
   have e2:ats=(t::ats').toArray:=by apply Array.ext';simpa using ht
   subst e2;split at hk
   case h_2=>exact hk.elim
   rename_i e E;split at hk
   case h_2=>exact hk.elim
   rename_i N J;obtain⟨r,B,C,H,D⟩:=PU (P:=P) (ty:=ty) (ats:=ats') E J hk;refine .inl ⟨_,B,?_,H,D⟩;simp only at C;simp[execOp,resolve,d,invoke,builtin,C]
  ·rename_i sa sn sc t L ht;have e1:=Z1 hf L;have d:A.map a.eval = #[.slice sa sn sc]:=by apply Array.ext';simpa using e1
   have e2:ats = #[t]:=by apply Array.ext';simpa using ht
   subst e2;split at hk
   case h_2=>exact hk.elim
   rename_i e E;split at hk
   case h_2=>exact hk.elim
   rename_i N J;split at hk
   case h_2=>exact hk.elim
   rename_i z S;rw[WK]at hk;obtain⟨j,hk⟩:=hk;simp only[zE,zT]at j;obtain⟨B,C,H,D⟩:=OK (P:=P) (ty:=ty) E J S j.1 (Nat.blt_eq.mp j.2) hk;refine .inl ⟨_,B,?_,H,D⟩;simp only at C;simp[execOp,resolve,d,invoke,builtin,C]
  ·exact hk.elim
 ·exact hk.elim
theorem I3 {k:IntKind}{c:CK}(p:MapEntry->Bool)(q:Int×c.T->Bool):∀(L:List MapEntry) (T:List (Int×c.T)),L.map (λe=>(e.key,e.val))=T.map (λx=>(Value.int k x.1,c.v x.2)) →
 (∀(j:Nat) (e:MapEntry) (y:Int×c.T),L[j]?=some e->T[j]?=some y->p e=q y)->(L.filter p).map (λe=>(e.key,e.val))=(T.filter q).map (λx=>(Value.int k x.1,c.v x.2))
 | [],T,h,_=>by
  cases T with
  | nil=>rfl
  | cons y T=>simp at h
 | e::L,[],h,_=>by simp at h
 | e::L,y::T,h,hpq=>by
  simp only[zS,List.cons.injEq]at h;have h0:=hpq 0 e y rfl rfl;have a:=I3 p q L T h.2 (λj d b g i=>hpq (j+1) d b (by simpa using g) (by simpa using i));simp only[tM,h0];cases q y
  ·simpa using a
  ·simp[h.1,a]
theorem It.PL {P:Program}{r:Nat}{k:IntKind}{c:CK}{m:Option Nat}{l todo:List (Int×c.T)}{cur:Option (Int×c.T)}{w:World}(hit:It w.heap r k c m l todo cur)(ty:Nat) :
 (todo=[]/\∃w',(Instr.next (.pointer (some ⟨r,0,none⟩)) false ty).run P w=.ok (.tuple #[.bool false]) w'/\Xt w w'/\w'.heap=w.heap) ∨
 (∃n x w',(n,x)∈todo/\(Instr.next (.pointer (some ⟨r,0,none⟩)) false ty).run P w=.ok (.tuple #[.bool true,.int k n,c.v x]) w'/\Xt w w'/\QR w.heap w'.heap r ∧
  It w'.heap r k c m l (todo.filter λy=>!(y.1==n)) (some (n,x))):=by
 cases m with
 | none=>
  obtain⟨rfl,rfl,rfl,s,q,y,hr⟩:=hit;exact .inl ⟨rfl,w,by simp[Instr.next,getObj,Sem.run,hr],.refl _,rfl⟩
 | some b=>
  obtain⟨es,clk,seen,hr,hb,he,hn,hp,hlt,htodo,hcur⟩:=hit;have hrlt:r<w.heap.size:=(jP.1 hr).1;have hrb:r≠b:=λe=>by rw[e,hb]at hr;cases hr
  have hchk:¬((!seen.isEmpty && !es.isEmpty&&es.all (·.born≥clk))=true):=by
   intro h;simp only[zE,mM,Array.all_eq_true',zU]at h;obtain⟨⟨_,h2⟩,h3⟩:=h;have h2':es ≠ #[]:=by simpa[yS]using h2
   obtain⟨e,hme⟩:=Array.exists_mem_of_ne_empty es h2';have:=h3 e hme;have:=hlt e (by simpa using hme);omega
  have hold:((es.filter λe=>!seen.contains e.born).filter (·.born<clk))=es.filter λe=>!seen.contains e.born:=by
   rw[Array.filter_eq_self];intro e hme;have:e∈es:=(Array.mem_filter.1 hme).1;simpa using hlt e (by simpa using this)
  have hnew:((es.filter λe=>!seen.contains e.born).filter (·.born≥clk)) = #[]:=by
   rw[Array.filter_eq_empty_iff];intro e hme;have:e∈es:=(Array.mem_filter.1 hme).1;have:=hlt e (by simpa using this);simp;omega
  have hlist:(es.filter λe=>!seen.contains e.born).toList=es.toList.filter λe=>!seen.contains e.born:=Array.toList_filter;have hrun:∀(cand:Array (Option MapEntry)),cand=(if(es.filter λe=>!seen.contains e.born).isEmpty then #[none]else #[])++(es.filter λe=>!seen.contains e.born).map some →
   (Instr.next (.pointer (some ⟨r,0,none⟩)) false ty).run P w=(do
    match cand[←choose (.mapNext cand.size)]? with
    | some (some e)=>do
     setObj r (.mapIter (some b) clk (seen.push e.born) clk)
     pure (.tuple #[.bool true,e.key,e.val])
    | some none=>pure (.tuple #[.bool false])
    | none=>stuck "Next: no such candidate" : Sem Value).run P w := by
   rintro cand rfl;simp only[Instr.next,getObj,Sem.run_bind,Sem.run,hr,Result.andThen_ok,hb,hchk,zp,hold,hnew,Array.append_empty,zZ,Sem.run_bind]
   try rfl
  cases htd:todo with
  | nil=>
   left;subst htd;have hnil:(es.filter λe=>!seen.contains e.born) = #[]:=by
    apply Array.ext';rw[hlist];have:=congrArg List.length htodo;simpa using this
   refine⟨rfl,w,?_,.refl _,rfl⟩;rw[hrun #[none] (by rw[hnil];simp)];simp[choose,Sem.run,Question.forced]
  | cons y ys=>
   right;have hlen:(es.filter λe=>!seen.contains e.born).size=todo.length:=by
    rw[←wa,hlist];simpa using congrArg List.length htodo
   have hne:(es.filter λe=>!seen.contains e.born).isEmpty=false:=by
    rw[htd]at hlen;simp only[zV]at hlen;cases hce:(es.filter λe=>!seen.contains e.born).isEmpty
    ·rfl
    ·rw[yS]at hce;rw[hce]at hlen;simp at hlen
   have key:∀(i:Nat),i<todo.length->∀w1:World,w1.heap=w.heap->Xt w w1->∃n x w',(n,x)∈todo ∧
    ((match ((es.filter λe=>!seen.contains e.born).map some)[i]? with
     | some (some e)=>do
      setObj r (.mapIter (some b) clk (seen.push e.born) clk)
      pure (.tuple #[.bool true,e.key,e.val])
     | some none=>pure (.tuple #[.bool false])
     | none=>stuck "Next: no such candidate" : Sem Value)).run P w1 = .ok (.tuple #[.bool true, .int k n, c.v x]) w' /\ Xt w w' /\ QR w.heap w'.heap r ∧
    It w'.heap r k c (some b) l (todo.filter λy=>!(y.1==n)) (some (n,x)):=by
    intro i hi w1 hw1 io;have hi':i<(es.filter λe=>!seen.contains e.born).size:=by omega
    let e:=(es.filter λe=>!seen.contains e.born)[i]
    have hei:(es.filter λe=>!seen.contains e.born)[i]?=some e:=by simp[e,hi']
    have hti:(es.toList.filter λe=>!seen.contains e.born)[i]?=some e:=by rw[←hlist,yJ];exact hei
    have hty:todo[i]?=some todo[i]:=by simp[hi]
    have hkv:(e.key,e.val)=(Value.int k todo[i].1,c.v todo[i].2):=by
     have:=congrArg (λl=>l[i]?) htodo;simp only[za,hti,hty,ze,Option.some.injEq]at this;exact this
    simp only[Prod.mk.injEq]at hkv;have hmemF:e∈es.toList.filter λe=>!seen.contains e.born:=zG hti;have hme:e∈es.toList:=(zI.1 hmemF).1;have hns:seen.contains e.born=false:=by simpa using(zI.1 hmemF).2
    refine⟨todo[i].1,todo[i].2,{w1 with heap:=w1.heap.setIfInBounds r (.mapIter (some b) clk (seen.push e.born) clk)},ka _,?_,?_,?_,?_⟩
    ·have hr1:w1.heap[r]?=some (.mapIter (some b) clk seen clk):=by rw[hw1];exact hr
     simp only[Array.getElem?_map,hei,ze,setObj,Sem.run_bind,Sem.run,hr1,Result.andThen_ok,Sem.run_pure,hkv.1,hkv.2]
    ·exact⟨io.1,io.2.1,io.2.2.1,by simp only[Array.size_setIfInBounds];exact io.2.2.2⟩
    ·rw[hw1];exact HO _ _ _
    ·rw[hw1];refine⟨es,clk,seen.push e.born,by simp[hrlt],?_,he,hn,hp,hlt,?_,λx hx=>?_⟩
     ·rw[yf hrb];exact hb
     ·-- the rest
      have hinj:∀e'∈es.toList,(e'.born==e.born)=true->e'=e:=by
       intro e' h1 h2;have h2':e'.born=e.born:=by simpa using h2
       obtain⟨p,hp1,j7⟩:=vz h1;obtain⟨q,hq1,hq2⟩:=vz hme;have hpw:=mg.1 hp;rcases qi p q with h|h|h
       ·have:=hpw p q (by simpa using hp1) (by simpa using hq1) h;simp[j7,hq2,h2']at this
       ·subst h;rw[←j7,hq2]
       ·have:=hpw q p (by simpa using hq1) (by simpa using hp1) h;simp[j7,hq2,h2']at this
      have hf1:(es.toList.filter λe'=>!(seen.push e.born).contains e'.born)=(es.toList.filter λe'=>!seen.contains e'.born).filter λe'=>!(e'.born==e.born):=by
       rw[Dp];apply vS;intro e' _;simp[Array.contains_eq_mem,Array.mem_push];rw[Bool.and_comm]
       congr 1
      rw[hf1];refine I3 _ _ _ _ htodo λj e' y h1 h2=>?_;have hm':e'∈es.toList:=(zI.1 (zG h1)).1;have hkv':(e'.key,e'.val)=(Value.int k y.1,c.v y.2):=by
       have:=congrArg (λl=>l[j]?) htodo;simp only[za,h1,h2,ze,Option.some.injEq]at this;exact this
      simp only[Prod.mk.injEq]at hkv'
      congr 1
      rw[kT];constructor
      ·intro hb';have:=hinj e' hm' hb';subst this;have:=hkv'.1.symm.trans hkv.1;simp only[Value.int.injEq,tD]at this;simpa using this
      ·intro hy;have hy':y.1=todo[i].1:=by simpa using hy
       have hkk:e'.key=e.key:=by rw[hkv'.1,hkv.1,hy']
       obtain⟨p,hp1,j7⟩:=vz hm';obtain⟨q,hq1,hq2⟩:=vz hme;have hll:es.toList.length=l.length:=by simpa using congrArg List.length he
       have hk1:∀(p:Nat) (hp:p<es.toList.length),es.toList[p].key=.int k (l[p]' O).1:=by
        intro p hp;have:=congrArg (λl=>l[p]?) he;simp only[za,cX hp,cX (show p<l.length by omega),ze,Option.some.injEq,Prod.mk.injEq]at this;exact this.1
       have e1:=hk1 p hp1;have e2:=hk1 q hq1;rw[j7]at e1;rw[hq2]at e2;rw[hkk,e2]at e1;simp only[Value.int.injEq,tD]at e1;have:p=q:=by
        have hnn:=mg.1 hn;rcases qi p q with h|h|h
        ·exact absurd (by rw[uf,uf];exact e1.symm) (hnn p q aE aE h)
        ·exact h
        ·exact absurd (by rw[uf,uf];exact e1) (hnn q p aE aE h)
       subst this;rw[←j7,←hq2];simp
     ·cases hx;refine⟨e,hme,by simp,hkv.1,hkv.2⟩
   have hsz:((if(es.filter λe=>!seen.contains e.born).isEmpty then #[none]else #[])++(es.filter λe=>!seen.contains e.born).map some:Array (Option MapEntry))=(es.filter λe=>!seen.contains e.born).map some:=by
    rw[hne];simp
   rw[←htd];rw[hrun _ hsz.symm];have hpos:0<todo.length:=by rw[htd];simp
   simp only[Sem.run_bind,choose,Sem.run,Array.size_map,hlen];cases hfo:(Question.mapNext todo.length).forced
   ·simp only[zZ,zp,Result.andThen_ok];exact key _ (by simp only[Question.cut];exact xf _ hpos) _ rfl ⟨rfl,rfl,rfl,zD _⟩
   ·simp only[zR,Result.andThen_ok];exact key 0 hpos w rfl (.refl _)
theorem It.Pb {P:Program}{r:Nat}{k:IntKind}{c:CK}{m:Option Nat}{l todo:List (Int×c.T)}{n:Int}{x:c.T}{w:World}(hit:It w.heap r k c m l todo (some (n,x))) :
 (Instr.entry (.pointer (some ⟨r,0,none⟩))).run P w=.ok (.tuple #[.int k n,c.v x]) w:=by
 cases m with
 | none=>obtain⟨_,_,h,_⟩:=hit;cases h
 | some b=>
  obtain⟨A,D,z,E,J,K,L,C,H,u,i⟩:=hit;obtain⟨e,s,a,F,B⟩:=i _ rfl;have d:A.find? (·.born==e.born)=some e:=by
   rw[←Array.find?_toList,List.find?_eq_some_iff_getElem];obtain⟨p,g,j7⟩:=vz s;refine⟨by simp,p,g,j7,λj G=>?_⟩;have y:=mg.1 C j p (by simp;simp at g;omega) (by simpa using g) G;rw[uf,uf,j7]at y;rw[mM];cases hb2:(A.toList[j].born==e.born)
   ·rfl
   ·have:=zT.1 hb2;omega
  simp[Instr.entry,getObj,Sem.run,E,J,a,d,F,B]
def x8 (k:IntKind)(c:CK)(o:Op)(ρ:Env)(h:Hp)(K:Value->Hp->Prop):Prop:=
 match o with
 | .next x false=>wv (ev ρ x) λv=>match v with
  | .pointer (some a)=>pG k c a h (K (.tuple #[.bool false]) h) λn y h'=>K (.tuple #[.bool true,.int k n,c.v y]) h'
  | _=>False
 | .entry x=>wv (ev ρ x) λv=>match v with
  | .pointer (some a)=>oK k c a h λn y=>K (.tuple #[.int k n,c.v y]) h
  | _=>False
 | _=>False
theorem It.spot {a:Addr}(h:a.off=0):∃s,a=⟨a.block,0,s⟩:=⟨a.spot,by cases a;simp at h;subst h;rfl⟩
theorem EN {P:Program}{k:IntKind}{c:CK}{ρ:Env}{K:Value->Hp->Prop}{a:Act}{w:World}(hf:∀x v,ev ρ x=some v->a.eval x=v)(o:Oper)(hk:x8 k c o.op ρ w.heap K):Ke P (execOp a.eval o) w K:=by
 obtain⟨z,op,r,pos,j,u⟩:=o;simp only at hk;unfold x8 at hk;split at hk
 ·rename_i x;obtain⟨v,g,hk⟩:=WE hk;simp only[execOp,hf _ _ g];split at hk
  case h_2=>exact hk.elim
  rename_i ad;obtain⟨p,m,l,e,D,d,B,A⟩:=hk;obtain⟨s,i⟩:=It.spot p;have b:∀w:World,(Instr.next (.pointer (some ad)) false r).run P w=(Instr.next (.pointer (some ⟨ad.block,0,none⟩)) false r).run P w:=by
   intro w;rw[i];rfl
  rcases d.PL (P:=P) r with⟨ht,w',hr,io,hh⟩|⟨n,y,w',hm,hr,io,ho,hi'⟩
  ·exact .inl ⟨.tuple #[.bool false],w',by simp[b,hr],io,by rw[hh];exact B ht⟩
  ·exact .inl ⟨.tuple #[.bool true,.int k n,c.v y],w',by simp[b,hr],io,A n y hm _ ho hi'⟩
 ·rename_i x;obtain⟨v,g,hk⟩:=WE hk;simp only[execOp,hf _ _ g];split at hk
  case h_2=>exact hk.elim
  rename_i ad;obtain⟨p,m,l,e,n,y,d,C⟩:=hk;obtain⟨s,i⟩:=It.spot p;have b:(Instr.entry (.pointer (some ad))).run P w=(Instr.entry (.pointer (some ⟨ad.block,0,none⟩))).run P w:=by
   rw[i];rfl
  exact .inl ⟨.tuple #[.int k n,c.v y],w,by simp[b,d.Pb (P:=P)],.refl _,C⟩
 ·exact hk.elim
structure Fits (N:Nat) (ρ:Env) (a:Act):Prop where
 defers:a.defers=[]
 size:a.tmps.size=N
 at_:∀i v,ρ i=some v->a.tmps[i]?=some v
theorem Fits.ev {N:Nat}{ρ:Env}{a:Act}(h:Fits N ρ a):∀x v,ev ρ x=some v->a.eval x=v:=by
 intro x v hx;cases x with
 | tmp t=>
  have:=h.at_ t v hx;simp[Act.eval,sr,this]
 | const u=>simp only[Vc.ev,Option.some.injEq]at hx;exact hx
 | global g=>simp only[Vc.ev,Option.some.injEq]at hx;exact hx
 | func f=>simp only[Vc.ev,Option.some.injEq]at hx;exact hx
def qL (N:Nat):Option Nat->Bool
 | some d=>Nat.blt d N
 | none=>true
theorem Fits.put {N:Nat}{ρ:Env}{a:Act}(h:Fits N ρ a){d:Option Nat}(hd:qL N d=true)(v:Value):Fits N (ρ.ig d v) (a.put d v):=by
 cases d with
 | none=>exact h
 | some d=>
  have j:d<N:=Nat.blt_eq.mp hd;refine⟨h.defers,by simp[Act.put,h.size],λi u b=>?_⟩;simp only[Env.ig,Env.put]at b;cases hi:Nat.beq i d
  ·rw[hi]at b;have g:i≠d:=λe=>by subst e;simp at hi
   simp only[Act.put];rw[yf (Ne.symm g)];exact h.at_ i u b
  ·rw[hi]at b;have e:i=d:=jZ hi;subst e;simp only[cond_true,Option.some.injEq]at b;subst b;simp[Act.put,h.size,j]
theorem Fits.weaken {N:Nat}{ρ ρ':Env}{a:Act}(h:Fits N ρ a)(hw:∀i v,ρ' i=some v->ρ i=some v):Fits N ρ' a:=
 ⟨h.defers,h.size,λi v b=>h.at_ i v (hw i v b)⟩
theorem xI (ρ:Env)(ds:List Nat):∀i v,ρ.dW ds i=some v->ρ i=some v:=by
 intro i v h;simp only[Env.dW]at h;cases hc:ds.contains i<;>rw[hc]at h<;>simp at h
 exact h
theorem Fits.lit {N:Nat}{ρ:Env}{a:Act}(h:Fits N ρ a){c:Nat}{b b':Bool}(hc:ρ c=some (.bool b))(e:b=b'):Fits N (ρ.put c (.bool b')) a:=by
 subst e;refine h.weaken λi v d=>?_;simp only[Env.put]at d;cases hi:Nat.beq i c
 ·rw[hi]at d;exact d
 ·rw[hi]at d;have e:i=c:=jZ hi;subst e;rw[hc];exact d
def GU (ops:Array Oper)(o:Oper)(ρ:Env):Bool:=
 match o.guard with
 | none=>true
 | some (j,want)=>match (ops[j]?).bind (·.dst)with
  | some c=>match ρ c with
   | some (.bool b)=>b==want
   | _=>false
  | none=>false
def tv (ops:Array Oper)(o:Oper)(ρ:Env):Bool:=
 match o.guard with
 | none=>false
 | some (j,want)=>match (ops[j]?).bind (·.dst)with
  | some c=>match ρ c with
   | some (.bool b)=>!(b==want)
   | some (.tuple _)=>true
   | _=>false
  | none=>false
theorem Zw {N:Nat}{ops:Array Oper}{o:Oper}{ρ:Env}{a:Act}(hf:Fits N ρ a)(h:GU ops o ρ=true):Region.wanted o (yielded ops a.tmps)=true:=by
 unfold GU at h;unfold Region.wanted;cases hg:o.guard with
 | none=>rfl
 | some jw=>
  obtain⟨j,d⟩:=jw;rw[hg]at h;simp only at h ⊢;cases hc:(ops[j]?).bind (·.dst)with
  | none=>rw[hc]at h;cases h
  | some c=>
   rw[hc]at h;simp only at h;split at h
   ·rename_i b hb;have:=hf.at_ c _ hb;simp only[yielded,hc,Option.bind_some,this];simpa using h
   ·cases h
theorem Vj {N:Nat}{ops:Array Oper}{o:Oper}{ρ:Env}{a:Act}(hf:Fits N ρ a)(h:tv ops o ρ=true):Region.wanted o (yielded ops a.tmps)=false:=by
 unfold tv at h;unfold Region.wanted;cases hg:o.guard with
 | none=>rw[hg]at h;cases h
 | some jw=>
  obtain⟨j,d⟩:=jw;rw[hg]at h;simp only at h ⊢;cases hc:(ops[j]?).bind (·.dst)with
  | none=>rw[hc]at h;cases h
  | some c=>
   rw[hc]at h;simp only at h;split at h
   ·rename_i b hb;have:=hf.at_ c _ hb;simp only[yielded,hc,Option.bind_some,this];simpa using h
   ·rename_i b hb;have:=hf.at_ c _ hb;simp only[yielded,hc,Option.bind_some,this];rfl
   ·cases h
def UG (N:Nat)(ops:Array Oper):List Oper->Env->Bool
 | [],_=>true
 | o::os,ρ=>tv ops o ρ&&(qL N o.dst&&UG N ops os (ρ.ig o.dst undef))
theorem II {P:Program}{N:Nat}{ops:Array Oper}{Q:Exit->Act->World->Prop}{tail:List Oper}{w:World}:∀{os:List Oper} {ρ:Env} {a:Act},UG N ops os ρ=true->Fits N ρ a →
 (∀a',Fits N (ρ.dW (os.filterMap (·.dst))) a'->wpList P ops Q tail a' w)->wpList P ops Q (os++tail) a w
 | [],ρ,a,_,hf,h=>h a (hf.weaken (xI _ _))
 | o::os,ρ,a,hs,hf,h=>by
  simp only[UG,zE]at hs;obtain⟨h1,h2,h3⟩:=hs;have m:=Vj hf h1;simp only[lp,wpList,m];refine II h3 (hf.put h2 _) λa' g=>h a' (g.weaken λi v b=>?_);simp only[Env.dW]at b ⊢;cases hc:(List.filterMap (·.dst) (o::os)).contains i
  ·rw[hc]at b;simp only[cond_false]at b;have e:(List.filterMap (·.dst) os).contains i=false:=by
    cases hd:o.dst<;>simp_all
   have j:∀d,o.dst=some d->i≠d:=by
    intro d hd;simp_all
   rw[e];simp only[cond_false];cases hd:o.dst with
   | none=>exact b
   | some d=>
    have:=j d hd;simp only[Env.ig,Env.put];have:Nat.beq i d=false:=by
     cases hb:Nat.beq i d
     ·rfl
     ·exact absurd (jZ hb) this
    rw[this];exact b
  ·rw[hc]at b;cases b
theorem JB {P:Program}{N:Nat}{ops:Array Oper}{Q:Act->Prop}{tail:List Oper}{w:World}:∀{os:List Oper} {ρ:Env} {a:Act},UG N ops os ρ=true->Fits N ρ a →
 (∀a',Fits N (ρ.dW (os.filterMap (·.dst))) a'->wpStill P ops w Q tail a')->wpStill P ops w Q (os++tail) a
 | [],ρ,a,_,hf,h=>h a (hf.weaken (xI _ _))
 | o::os,ρ,a,hs,hf,h=>by
  simp only[UG,zE]at hs;obtain⟨h1,h2,h3⟩:=hs;have m:=Vj hf h1;simp only[lp,wpStill,m];refine JB h3 (hf.put h2 _) λa' g=>h a' (g.weaken λi v b=>?_);simp only[Env.dW]at b ⊢;cases hc:(List.filterMap (·.dst) (o::os)).contains i
  ·rw[hc]at b;simp only[cond_false]at b;have e:(List.filterMap (·.dst) os).contains i=false:=by
    cases hd:o.dst<;>simp_all
   have j:∀d,o.dst=some d->i≠d:=by
    intro d hd;simp_all
   rw[e];simp only[cond_false];cases hd:o.dst with
   | none=>exact b
   | some d=>
    have:=j d hd;simp only[Env.ig,Env.put];have:Nat.beq i d=false:=by
     cases hb:Nat.beq i d
     ·rfl
     ·exact absurd (jZ hb) this
    rw[this];exact b
  ·rw[hc]at b;cases b
def bV (K:aO)(body:(Bool->Hp->Prop)->Prop):Prop:=∃J:Bool->Hp->Prop,(∀r h,J r h->K r h)/\body J
theorem bV.intro {K:aO}{body:(Bool->Hp->Prop)->Prop}(h:body K):bV K body:=⟨K,λ_ _ h=>h,h⟩
inductive RI where
 | op
 | it (k:IntKind) (c:CK)
 | cR (and:Bool) (n:Nat) (inner:List RI)
def Ax (b:Bool):Operand->Bool
 | .const (.bool b')=>b'==b
 | _=>false
def UF (ρ:Env)(x:Operand)(K:Bool->Prop):Prop:=match ev ρ x with
 | some (.bool r)=>K r
 | _=>False
def sf (ρ:Env)(c:Nat)(b:Bool):Bool:=match ρ c with
 | some (.bool b')=>b'==b
 | _=>false
def eD (P:Program)(N:Nat)(ops:Array Oper):Nat->List RI->List Oper->Env->Hp->(Env->Hp->Prop)->Prop
 | 0,_,_,_,_,_=>False
 | _+1,[],[],ρ,h,K=>K ρ h
 | n+1,.op::hs,o::os,ρ,h,K=>fQ (GU ops o ρ&&qL N o.dst) (su P o.op o.type ρ h λv h'=>eD P N ops n hs os (ρ.ig o.dst v) h' K)
 | n+1,.it ki c::hs,o::os,ρ,h,K=>fQ (GU ops o ρ&&qL N o.dst) (x8 ki c o.op ρ h λv h'=>eD P N ops n hs os (ρ.ig o.dst v) h' K)
 | n+1,.cR and m inner::hs,os,ρ,h,K=>
  match os.drop m with
  | pk::rest=>match pk.op,pk.dst with
   | .pick (.tmp c) x y,some d=>match ρ c with
    | some (.bool b)=>fQ (Nat.blt d N&&(Ax (!and) (bif and then y else x)&&(GU ops pk (ρ.dW ((os.take m).filterMap (·.dst)))&&(sf ((ρ.put c (.bool (!and))).dW ((os.take m).filterMap (·.dst))) c (!and)&&UG N ops (os.take m) (ρ.put c (.bool (!and)))))))
     (bV (λr h'=>eD P N ops n hs rest ((ρ.dW ((os.take m).filterMap (·.dst))).put d (.bool r)) h' K) λJ=>
      bif and then If b (eD P N ops n inner (os.take m) (ρ.put c (.bool true)) h λρ' h'=>fQ (GU ops pk ρ'&&sf ρ' c true) (UF ρ' x λr=>J r h')) (J false h)
      else If b (J true h) (eD P N ops n inner (os.take m) (ρ.put c (.bool false)) h λρ' h'=>fQ (GU ops pk ρ'&&sf ρ' c false) (UF ρ' y λr=>J r h')))
    | _=>False
   | _,_=>False
  | []=>False
 | _,_,_,_,_,_=>False
theorem U1 {P:Program}{ρ:Env}{K:Value->Hp->Prop}{a:Act}{w:World}(hf:∀x v,ev ρ x=some v->a.eval x=v)(o:Oper)(hk:su P o.op o.type ρ w.heap K) :
 Ke P (execOp a.eval o) w K:=by
 unfold su at hk;cases hq:tU o.op
 ·rw[hq]at hk;exact TE hf o hk
 ·rw[hq]at hk;obtain⟨v,d,b⟩:=xP hf o hk;exact .inl ⟨v,w,d,.refl _,b⟩
theorem KQ {ρ:Env}{x:Operand}{K:Bool->Prop}(h:UF ρ x K):∃r,ev ρ x=some (.bool r)/\K r:=by
 unfold UF at h;split at h
 ·exact⟨_,by assumption,h⟩
 ·exact h.elim
theorem BI {b:Bool}{x:Operand}(h:Ax b x=true)(ρ:Operand->Value)(hc:∀v,ρ (.const v)=v):ρ x=.bool b:=by
 unfold Ax at h;split at h
 ·rw[hc];simp at h;rw[h]
 ·cases h
theorem Fo {P:Program}{a:Act}{w:World}{o:Oper}{c x y:Operand}{b r:Bool}{K:Value->Hp->Prop}(ho:o.op=.pick c x y)(hc:a.eval c=.bool b)(hr:a.eval (bif b then x else y)=.bool r)(hK:K (.bool r) w.heap) :
 Ke P (execOp a.eval o) w K:=by
 obtain⟨g,op,i,pos,d,e⟩:=o;simp only at ho;subst ho;refine .inl ⟨_,w,?_,.refl _,hK⟩;cases b<;>simp at hr<;>simp[execOp,hc,asBool,hr]
def V2 (os:List Oper)(ρ ρ':Env):Prop:=∀i,(os.filterMap (·.dst)).contains i=false->∀v,ρ i=some v->ρ' i=some v
theorem V2.cons {o:Oper}{os:List Oper}{ρ ρ':Env}{v:Value}(h:V2 os (ρ.ig o.dst v) ρ'):V2 (o::os) ρ ρ':=by
 intro i hi u hu;cases hd:o.dst with
 | none=>rw[hd]at h;exact h i (by simpa[hd]using hi) u hu
 | some d=>
  rw[hd]at h;simp[hd]at hi;refine h i (by simpa using hi.2) u ?_;simp only[Env.ig,Env.put];have:Nat.beq i d=false:=by
   cases hb:Nat.beq i d
   ·rfl
   ·exact absurd (jZ hb) hi.1
  rw[this];exact hu
theorem V2.cR {os rest:List Oper}{pk:Oper}{m d:Nat}{ρ ρ':Env}{r:Bool}(hd:pk.dst=some d)(hdrop:os.drop m=pk::rest)(h:V2 rest ((ρ.dW ((os.take m).filterMap (·.dst))).put d (.bool r)) ρ'):V2 os ρ ρ':=by
 intro i hi u hu;rw[←oa m os,hdrop,vI,Dr,hd]at hi;simp only[r4,zK,zX,decide_eq_false_iff_not,not_or]at hi;refine h i (by simpa using hi.2.2) u ?_;simp only[Env.put,Env.dW];have:Nat.beq i d=false:=by
  cases hb:Nat.beq i d
  ·rfl
  ·exact absurd (jZ hb) hi.2.1
 rw[this];have a:((os.take m).filterMap (·.dst)).contains i=false:=by simpa using hi.1
 rw[a];exact hu
theorem Fits.uZ {N:Nat}{os:List Oper}{ρ ρ':Env}{a:Act}{c:Nat}{b b':Bool}(h:Fits N ρ' a)(hc:ρ c=some (.bool b))(e:b=b')(k:V2 os (ρ.put c (.bool b')) ρ'):Fits N (ρ.dW (os.filterMap (·.dst))) a:=by
 refine h.weaken λi v d=>?_;simp only[Env.dW]at d;cases hci:(os.filterMap (·.dst)).contains i
 ·rw[hci]at d;refine k i hci v ?_;simp only[Env.put];cases hb:Nat.beq i c
  ·exact d
  ·have e2:i=c:=jZ hb;subst e2;simp only[cond_false]at d;rw[hc]at d;simp only[cond_true];rw[←e];exact d
 ·rw[hci]at d;cases d
theorem UZ {ρ:Env}{c:Nat}{b:Bool}(h:sf ρ c b=true):ρ c=some (.bool b):=by
 unfold sf at h;split at h
 ·rename_i b' hb;simp at h;rw[hb,h]
 ·cases h
theorem KU {P:Program}{N:Nat}{ops:Array Oper}{Q:Exit->Act->World->Prop}:∀(n:Nat) {hs:List RI} {os:List Oper} {tail:List Oper} {ρ:Env} {a:Act} {w:World} {K:Env->Hp->Prop},
 eD P N ops n hs os ρ w.heap K->Fits N ρ a->(∀ρ' a' w',Fits N ρ' a'->Xt w w'->V2 os ρ ρ'->K ρ' w'.heap->wpList P ops Q tail a' w')->wpList P ops Q (os++tail) a w
 | 0,_,_,_,_,_,_,_,h,_,_=>(by simp only[eD]at h)
 | n+1,[],[],tail,ρ,a,w,K,h,hf,hK=>by
  simp only[eD]at h;exact hK ρ a w hf (.refl _) (λ_ _ _ h=>h) h
 | n+1,[],o::os,tail,ρ,a,w,K,h,hf,hK=>(by simp only[eD]at h)
 | n+1,.op::hs,[],tail,ρ,a,w,K,h,hf,hK=>(by simp only[eD]at h)
 | n+1,.op::hs,o::os,tail,ρ,a,w,K,h,hf,hK=>by
  simp only[eD]at h;rw[WK]at h;obtain⟨hc,h⟩:=h;simp only[zE]at hc;have R:=Zw hf hc.1;simp only[lp,wpList,R,zR];refine .inl (Ke.upon (U1 hf.ev o h) λv w' D u=>?_);exact KU n u (hf.put hc.2 v) λρ' a' A g j E s=>hK ρ' a' A g (D.trans j) E.cons s
 | n+1,.it ki c::hs,[],tail,ρ,a,w,K,h,hf,hK=>(by simp only[eD]at h)
 | n+1,.it ki c::hs,o::os,tail,ρ,a,w,K,h,hf,hK=>by
  simp only[eD]at h;rw[WK]at h;obtain⟨hc,h⟩:=h;simp only[zE]at hc;have R:=Zw hf hc.1;simp only[lp,wpList,R,zR];refine .inl (Ke.upon (EN hf.ev o h) λv w' D u=>?_);exact KU n u (hf.put hc.2 v) λρ' a' A g j E s=>hK ρ' a' A g (D.trans j) E.cons s
 | n+1,.cR and m inner::hs,os,tail,ρ,a,w,K,h,hf,hK=>by
  simp only[eD]at h;split at h
  case h_2=>exact h.elim
  rename_i pk rest hdrop;split at h
  case h_2=>exact h.elim
  rename_i c x y d hop hd;split at h
  case h_2=>exact h.elim
  rename_i b hb;rw[WK]at h;obtain⟨hc,J,hJ,h⟩:=h;simp only[zE]at hc;obtain⟨U,H,ac,Z,C⟩:=hc;have ad:qL N pk.dst=true:=by rw[hd];exact U
  have Y:os++tail=os.take m++(pk::rest++tail):=by
   rw[←hdrop,←zr,oa]
  rw[Y];have p:∀(r b':Bool) (z:Operand) a' w',b=b'->(bif b' then x else y)=z->Fits N (ρ.dW ((os.take m).filterMap (·.dst))) a'->Xt w w'->J r w'.heap->Region.wanted pk (yielded ops a'.tmps)=true →
   a'.eval (.tmp c)=.bool b'->a'.eval z=.bool r->wpList P ops Q (pk::rest++tail) a' w':=by
   intro r b' z a' w' e ez g D L R F hez;simp only[lp,wpList,R,zR];refine .inl (Ke.upon (K:=λv W=>v=.bool r/\W=w'.heap) (Fo hop F (by rw[ez];exact hez) ⟨rfl,rfl⟩) λv A j u=>?_);obtain⟨rfl,hh⟩:=u;have X:=g.put (d:=some d) U (.bool r);rw[hd];have M:=hJ _ _ L;rw[←hh]at M;exact KU n M X λρ' ab w3 G S E s=>hK ρ' ab w3 G ((D.trans j).trans S) (V2.cR hd hdrop E) s
  have run:∀(b':Bool) (z:Operand),b=b'->(bif b' then x else y)=z →
   eD P N ops n inner (os.take m) (ρ.put c (.bool b')) w.heap (λρ' W=>fQ (GU ops pk ρ'&&sf ρ' c b') (UF ρ' z λr=>J r W))->wpList P ops Q (os.take m++(pk::rest++tail)) a w:=by
   intro b' z e ez hseg;refine KU n hseg (hf.lit hb e) λρ' a' w' g D E u=>?_;rw[WK]at u;simp only[zE]at u;obtain⟨⟨hg,aa⟩,u⟩:=u;obtain⟨r,hr,L⟩:=KQ u;exact p r b' z a' w' e ez (g.uZ hb e E) D L (Zw g hg) (g.ev _ _ (UZ aa)) (g.ev _ _ hr)
  have B:∀(b':Bool),b=b'->b' = !and->J (!and) w.heap->wpList P ops Q (os.take m++(pk::rest++tail)) a w:=by
   intro b' e eb L;subst eb;refine II C (hf.lit hb e) λa' g=>?_;have V:Fits N (ρ.dW ((os.take m).filterMap (·.dst))) a':=g.uZ (ρ':=(ρ.put c (.bool (!and))).dW ((os.take m).filterMap (·.dst))) hb e (λi hi v hv=>by simp only[Env.dW,hi];exact hv);have F:=g.ev (.tmp c) _ (UZ Z);refine p (!and) (!and) (bif (!and)then x else y) a' w e rfl V (.refl _) L (Zw V ac) F ?_;refine BI ?_ _ (λv=>rfl);cases and<;>exact H
  cases and
  ·simp only[cond_false]at h;cases b
   ·exact run false y rfl rfl (h.f rfl)
   ·exact B true rfl rfl (h.t rfl)
  ·simp only[cond_true]at h;cases b
   ·exact B false rfl rfl (h.f rfl)
   ·exact run true x rfl rfl (h.t rfl)
variable {P:Program}{ops:Array Oper}{Q:Exit->Act->World->Prop}
def vX (ops:Array Oper)(k i:Nat):Bool:=match ops[k]? with
 | none=>false
 | some o=>o.after.toList.any λe=>Region.binds .any e&&Nat.beq e.on i
def TS (S:World->Prop)(C:List Nat)(listed:Array Bool)(w:World):Prop:=S w\/∃k∈C,listed.getD k false=true
def anyS (P:Program)(ops:Array Oper)(Q:Exit->Act->World->Prop)(S:World->Prop)(C:List Nat):Nat->Array Bool->Act->World->Prop
 | 0,listed,a,w=>Region.ready .any ops listed=[]/\Q .normal a w
 | m+1,listed,a,w=>(Region.ready .any ops listed=[]->Q .normal a w) ∧
  ∀i,i∈Region.ready .any ops listed->wpOp P ops Q i (λa' w'=>TS S C (listed.setIfInBounds i true) w'/\anyS P ops Q S C m (listed.setIfInBounds i true) a' w') a w
theorem Uo {S:World->Prop}{C:List Nat}:∀(m:Nat) (listed:Array Bool) (a:Act) (w:World),anyS P ops Q S C m listed a w->wpAny P .any ops Q m listed a w
 | 0,_,_,_,h=>h
 | m+1,_,_,_,h=>⟨h.1,λi hi=>wpOp_mono (λ_ _ h'=>Uo m _ _ _ h'.2) (h.2 i hi)⟩
theorem TS.out {S:World->Prop}{C:List Nat}{listed:Array Bool}{w:World}(h:TS S C listed w)(hn:∀k∈C,listed.getD k false=false):S w:=by
 rcases h with h|⟨k,hk,hl⟩
 ·exact h
 ·rw[hn k hk]at hl;cases hl
theorem PN {k i:Nat}{o:Oper}(ho:ops[k]?=some o)(hno:∀e∈o.after,Region.binds .any e=true->e.on≠i):vX ops k i=false:=by
 unfold vX;rw[ho];simp only;rw[mc];intro e he hb;simp only[zE]at hb;exact hno e (by simpa using he) hb.1 (jZ hb.2)
theorem TS.drop {S:World->Prop}{C:List Nat}{listed:Array Bool}{w:World}{i j:Nat}(hij:i≠j)(hi:∀k∈C,k≠i)(h:TS S C ((listed.setIfInBounds i true).setIfInBounds j true) w):TS S C (listed.setIfInBounds j true) w:=by
 refine h.imp id ?_;rintro⟨k,hk,hl⟩;refine⟨k,hk,?_⟩;rw[Array.setIfInBounds_comm _ _ hij,getD_set_ne false (Ne.symm (hi k hk))]at hl;exact hl
theorem TB {S T:World->Prop}{C:List Nat}{i:Nat}{oi:Oper}{v:Value}(hi:ops[i]?=some oi)(hsel:∀(j:Nat) (o:Oper) cs b,ops[j]?=some o->o.op≠.select cs b)
 (hQ:∀c a w,Q (.panic c) (a.put oi.dst v) w->Q (.panic c) a w) (hiC:∀k∈C,k≠i) (hT:(∀w,T w)\/((∀w,S w->T w)/\∀k∈C,vX ops k i=true)) :
 ∀(m:Nat) (listed:Array Bool) (a:Act) (w:World),
  (∀j oj,ops[j]?=some oj->j≠i->listed.getD j true=false->(∀e∈oj.after,Region.binds .any e=true->e.on≠i)->oi.apart ops oj=true) →
  i∈Region.ready .any ops listed->((∀w,T w)\/∀k∈C,listed.getD k false=false)->YieldsIf P ops T oi v a->TS S C listed w →
  anyS P ops Q S C m (listed.setIfInBounds i true) (a.put oi.dst v) w->anyS P ops Q S C (m+1) listed a w:=by
 have s:∀{listed:Array Bool} {a:Act} {w:World} {K:Act->World->Prop},((∀w,T w)\/∀k∈C,listed.getD k false=false)->YieldsIf P ops T oi v a->TS S C listed w->K (a.put oi.dst v) w →
  wpOp P ops Q i (λE B=>TS S C (listed.setIfInBounds i true) B/\K E B) a w:=by
  intro listed a w K g hy hS hK;refine hy.wpOp hi ?_ ⟨?_,hK⟩
  ·rcases hT with hT|⟨hT,_⟩
   ·exact hT w
   ·rcases g with g|g
    ·exact g w
    ·exact hT w (hS.out g)
  ·refine hS.imp id ?_;rintro⟨k,u,hl⟩;exact⟨k,u,by rw[getD_set_ne false (Ne.symm (hiC k u))];exact hl⟩
 intro m
 induction m with
 | zero=>
  intro listed a w _ hr g hy hS H;refine⟨λh=>by rw[h]at hr;simp at hr,λj D=>?_⟩;by_cases hji:j=i
  ·rw[hji];exact s g hy hS H
  ·have p:=ready_mono D hji;rw[H.1]at p;simp at p
 | succ m ih=>
  intro listed a w hfree hr g hy hS H;refine⟨λh=>by rw[h]at hr;simp at hr,λj D=>?_⟩;by_cases hji:j=i
  ·rw[hji];exact s g hy hS H
  ·obtain⟨x,oj,r,z⟩:=mem_ready.1 D;have d:=(mem_ready.1 hr).1;have y:∀e∈oj.after,Region.binds .any e=true->e.on≠i:=by
    intro e he hb heq;have p:=z e he hb;rw[heq]at p;rw[sr]at p d;cases hg:listed[i]? with
    | none=>rw[hg]at p;cases p
    | some b=>rw[hg]at p d;simp only[qk]at p d;rw[d]at p;cases p
   have M:=wpOp_putIf r (hfree j oj r hji x y) (λcs b=>hsel i oi cs b hi) (λcs b=>hsel j oj cs b r) hQ hy (H.2 j (ready_mono D hji));refine wpOp_mono (λE B L=>?_) M;have A:=L.2.1.drop (Ne.symm hji) hiC;refine⟨A,ih _ E B (λk ok u F J G=>?_) (ready_mono hr (Ne.symm hji)) ?_ L.1 A ?_⟩
   ·refine hfree k ok u F ?_ G;by_cases hjk:j=k
    ·rw[←hjk];exact x
    ·rwa [getD_set_ne true hjk]at J
   ·rcases hT with hT|⟨_,hw⟩
    ·exact .inl hT
    refine g.imp id λg k u=>?_;by_cases hjk:j=k
    ·exfalso;have:=hw k u;rw[←hjk,PN r y]at this;cases this
    ·rw[getD_set_ne false hjk];exact g k u
   ·rw[Array.setIfInBounds_comm _ _ hji];exact L.2.2
theorem C9 {S T:World->Prop}{C:List Nat}{i m:Nat}{oi:Oper}{v:Value}{listed:Array Bool}{a:Act}{w:World}(hi:ops[i]?=some oi)(hs:Region.noSelect ops=true)(hf:Region.free .any ops listed i=true)
 (hr:i∈Region.ready .any ops listed) (hQ:∀c a w,Q (.panic c) (a.put oi.dst v) w->Q (.panic c) a w) (hiC:C.contains i=false)
 (hT:(∀w,T w)\/((∀w,S w->T w)/\∀k∈C,vX ops k i=true)) (hn:(∀w,T w)\/∀k∈C,listed.getD k false=false) (hy:YieldsIf P ops T oi v a) (hS:TS S C listed w)
 (h:anyS P ops Q S C m (listed.setIfInBounds i true) (a.put oi.dst v) w):anyS P ops Q S C (m+1) listed a w:=
 TB hi (Region.noSelect_spec hs) hQ (λk b e=>by subst e;rw[Ae.2 b]at hiC;cases hiC) hT m listed a w (Region.free_spec hi hf) hr hn hy hS h
theorem OQ {S:World->Prop}{C:List Nat}{rs:List Nat}{m:Nat}{listed:Array Bool}{a:Act}{w:World}(hr:Region.ready .any ops listed=rs)(hne:rs≠[])
 (h:∀i∈rs,wpOp P ops Q i (λa' w'=>TS S C (listed.setIfInBounds i true) w'/\anyS P ops Q S C m (listed.setIfInBounds i true) a' w') a w):anyS P ops Q S C (m+1) listed a w:=
 ⟨λb=>absurd (hr▸b) hne,hr▸h⟩
theorem ν {S:World->Prop}{C:List Nat}{listed:Array Bool}{a:Act}{w:World}(hr:Region.ready .any ops listed=[])(h:Q .normal a w):∀m,anyS P ops Q S C m listed a w
 | 0=>⟨hr,h⟩
 | _+1=>⟨λ_=>h,by rw[hr];simp⟩
theorem U6 {S:World->Prop}{C:List Nat}{id:Nat}{a:Act}{w:World}(hm:P.follows .mixedOrders=true)
 (h:anyS P ops Q S C ops.size (Array.replicate ops.size false) a {w with drawn:=w.drawn+1}):(Code.region id ops true).wp P Q a w:=
 wp_region_any hm (Uo _ _ _ _ h)
end Go.Vc
namespace Go.Vc
open Go
def GJ (P:Program):Op->Bool
 | .load _ _=>false
 | .lookup .. => false
 | .typeAssert .. => false
 | .binOp _ t _ y _=>match P.underlying t with
  | some (.pointer _)=>td y
  | _=>true
 | .convert s _ _=>match P.underlying s with
  | some (.slice _)=>false
  | _=>true
 | .call c=>match c.callee,c.argTypes.toList with
  | .builtin .len,[t]=>match P.underlying t with
   | some (.map _ _)=>false
   | some _=>true
   | none=>false
  | .builtin .cap,_=>true
  | .builtin .max,_=>true
  | .builtin .min,_=>true
  | _,_=>false
 | o=>tU o
theorem Bx {op:BinOp}{k:IntKind}{x y:Int}{K:Value->Prop}(h:pS op k x y K):∃v,K v/\pS op k x y (· = v):=by
 cases op<;>simp only[pS,Ar,Nz,Nn]at h ⊢
 all_goals first
  | exact⟨_,h,rfl⟩
  | exact⟨_,h.2,h.1,rfl⟩
theorem HX {op:BinOp}{b:Bool}{K:Value->Prop}(h:nf op b K):∃v,K v/\nf op b (· = v):=by
 cases op<;>simp only[nf]at h ⊢ <;> first|exact h.elim|exact⟨_,h,rfl⟩
theorem Mx {P:Program}{op:BinOp}{t:Nat}{x y:Value}{K:Value->Prop}(h:lS P op t x y K):∃v,K v/\lS P op t x y (· = v):=by
 unfold lS at h ⊢;split at h
 ·obtain⟨v,a,b⟩:=HX h;exact⟨v,a,by simp only[*]⟩
 ·obtain⟨v,a,b⟩:=HX h;exact⟨v,a,by simp only[*]⟩
 ·obtain⟨v,a,b⟩:=HX h;exact⟨v,a,by simp only[*]⟩
 ·obtain⟨d,h⟩:=h;obtain⟨v,a,b⟩:=HX h;exact⟨v,a,by simp only[*];trivial⟩
 ·exact h.elim
theorem L9 {P:Program}{op:BinOp}{t:Nat}{x y:Value}{K:Value->Prop}(h:lK P op t x y K):∃v,K v/\lK P op t x y (· = v):=by
 unfold lK at h ⊢;split at h
 ·split at h
  ·obtain⟨v,a,b⟩:=Bx h;exact⟨v,a,by simpa[*]using b⟩
  ·rename_i hne;cases op<;>simp only at h
   all_goals try exact h.elim
   ·obtain⟨v,a,b⟩:=Bx h;exact⟨v,a,by simpa[hne]using b⟩
   ·obtain⟨v,a,b⟩:=Bx h;exact⟨v,a,by simpa[hne]using b⟩
 ·split at h
  ·obtain⟨v,a,b⟩:=HX h;exact⟨v,a,by simp only[*]⟩
  ·exact h.elim
 ·cases op<;>simp only at h ⊢ <;> first|exact h.elim|exact⟨_,h,rfl⟩
 ·exact h.elim
theorem Tw {P:Program}{op:BinOp}{t:Nat}{xs ys:List Value}{K:Value->Prop}(h:nk P op t xs ys K):∃v,K v/\nk P op t xs ys (· = v):=by
 unfold nk at h ⊢;split at h
 case h_3=>exact h.elim
 all_goals
  rename_i hu;rw[WK]at h;obtain⟨a,h⟩:=h;split at h
  case h_2=>exact h.elim
  rename_i b hb;obtain⟨v,d,e⟩:=HX h;exact⟨v,d,by simp only[hu,WK,hb];exact⟨a,e⟩⟩
theorem NN {P:Program}{op:BinOp}{t:Nat}{y:Operand}{vx vy:Value}{hp:Hp}{K:Value->Prop}(hpure:(match P.underlying t with|some (.pointer _)=>td y|_=>true)=true)(h:vU P op t y vx vy hp K):∃v,K v/\∀hp',vU P op t y vx vy hp' (· = v):=by
 unfold vU at h ⊢;cases hn:td y
 ·rw[hn]at h;simp only[cond_false]at h ⊢;split at h
  ·obtain⟨v,a,b⟩:=Tw h;exact⟨v,a,λ_=>b⟩
  ·exfalso;unfold qz at h;split at h
   ·rename_i e hu;rw[hu]at hpure;simp only[hn]at hpure;cases hpure
   ·exact h
  ·obtain⟨v,a,b⟩:=L9 h;exact⟨v,a,λ_=>by simpa only using b⟩
 ·rw[hn]at h;obtain⟨v,a,b⟩:=Mx h;exact⟨v,a,λ_=>b⟩
theorem uO {o:Option Value}{K:Value->Prop}(h:wv o K):∃v,K v/\wv o (· = v):=by
 obtain⟨v,rfl,a⟩:=WE h;exact⟨v,a,rfl⟩
theorem Mv {P:Program}{t off:Nat}{cs:List Value}{K:Value->Prop}(h:vj P t cs off K):∃v,K v/\vj P t cs off (· = v):=by
 unfold vj at h ⊢;split at h
 case h_2=>exact h.elim
 rename_i d ti hu hi;cases hd:UK d
 ·rw[hd]at h;obtain⟨v,a,b⟩:=uO h;exact⟨v,a,by simpa[hd]using b⟩
 ·rw[hd]at h;exact⟨_,h,by simp⟩
theorem Nv {P:Program}{t:Nat}{ps:List (Nat×Value)}{K:Value->Prop}(h:nL P t ps K):∃v,K v/\nL P t ps (· = v):=by
 unfold nL at h ⊢;split at h
 ·split at h
  ·rename_i z hz;have key:∀{ps:List (Nat×Value)} {raw:Nat->Bool} {A:Prop},lF raw ps A->A/\∀B:Prop,B->lF raw ps B:=by
    intro ps raw
    induction ps with
    | nil=>intro A h;exact⟨h,λB b=>b⟩
    | cons x ps ih=>
     intro A h;simp only[lF]at h ⊢;cases hr:raw x.1
     ·rw[hr]at h;exact ih h
     ·rw[hr]at h;simp only[cond_true]at h ⊢;exact⟨(ih h.2).1,λB b=>⟨h.1,(ih h.2).2 B b⟩⟩
   obtain⟨h,a⟩:=key h;split at h
   ·rename_i cs hf;rw[WK]at h;refine⟨_,h.2,?_⟩;simp only[*];refine a _ ?_;rw[WK]
    first|exact⟨h.1,trivial⟩|exact⟨rfl,trivial⟩
   ·exact h.elim
  ·exact h.elim
 ·split at h
  ·split at h
   ·refine⟨_,h,?_⟩;simp only[*]
   ·exact h.elim
  ·exact h.elim
 ·exact h.elim
theorem Pj {P:Program}{t:Nat}{x:Value}{lo hi mx:Option Value}{K:Value->Prop}(h:nK P t x lo hi mx K):∃v,K v/\nK P t x lo hi mx (· = v):=by
 unfold nK at h ⊢;split at h
 case h_2=>exact h.elim
 rename_i e a n c hu;split at h
 case h_2=>exact h.elim
 rename_i ti hi';simp only at h ⊢;split at h
 case h_2=>exact h.elim
 rename_i l hh m hlo hhi hmx;obtain⟨j,i,g,d,b⟩:=h;refine⟨_,b,?_⟩;simp only[hu,hi',hlo,hhi,hmx];exact⟨j,i,g,d,rfl⟩
theorem BX:∀{vs:List Value} {v:Value} {b:Bool} {K:Value->Prop},pc b v vs K->∃z,K z/\pc b v vs (· = z)
 | [],v,b,K,h=>⟨v,by simpa[pc]using h,by simp[pc]⟩
 | u::vs,v,b,K,h=>by
  cases v<;>cases u<;>simp only[pc]at h ⊢ <;> try exact h.elim
  exact BX h
theorem NO {P:Program}{o:Op}(hp:GJ P o=true){ρ:Env}{h:Hp}{K:Value->Prop}(hk:qK P o ρ h K):∃v,K v/\∀h',qK P o ρ h' (· = v):=by
 unfold qK at hk;split at hk
 case h_1 x=>obtain⟨v,a,e⟩:=uO hk;exact⟨v,a,λ_=>e⟩
 case h_2 x=>obtain⟨v,a,e⟩:=uO hk;exact⟨v,a,λ_=>e⟩
 case h_3 c x y=>
  obtain⟨v,A,hk⟩:=WE hk;split at hk
  ·obtain⟨u,a,e⟩:=uO hk;exact⟨u,a,λ_=>by simpa only[qK,A,wv]using e⟩
  ·obtain⟨u,a,e⟩:=uO hk;exact⟨u,a,λ_=>by simpa only[qK,A,wv]using e⟩
  ·exact hk.elim
 case h_4=>simp[GJ]at hp
 case h_5 x=>
  obtain⟨v,A,hk⟩:=WE hk;split at hk
  ·obtain⟨E,rfl,r⟩:=hk;exact⟨_,r,λ_=>by simp only[qK,A,wv];exact⟨E,rfl,rfl⟩⟩
  ·exact⟨_,hk,λ_=>by simp only[qK,A,wv]⟩
  ·exact hk.elim
 case h_6 op t x y yt=>
  obtain⟨j,g,hk⟩:=WE hk;obtain⟨N,F,C⟩:=WE hk;obtain⟨v,a,e⟩:=NN hp C;exact⟨v,a,λ_=>by simpa only[qK,g,F,wv]using e _⟩
 case h_7 op t x=>
  obtain⟨j,g,hk⟩:=WE hk;split at hk
  ·exact⟨_,hk,λ_=>by simp only[qK,g,wv]⟩
  ·exact⟨_,hk,λ_=>by simp only[qK,g,wv,Ar]⟩
  ·exact hk.elim
 case h_8 s d x=>
  obtain⟨j,g,hk⟩:=WE hk;split at hk
  ·rename_i a e;exact⟨_,hk,λ_=>by simp only[qK,g,wv,a,e,Ar]⟩
  ·rename_i a e;exact⟨_,hk,λ_=>by simp only[qK,g,wv,a,e]⟩
  ·rename_i a e;simp[GJ,a]at hp
  ·exact hk.elim
 case h_9 s x f=>
  obtain⟨j,g,hk⟩:=WE hk;obtain⟨M,G,D,z,hk⟩:=yU hk;split at hk
  ·rw[WK]at hk;exact⟨_,hk.2,λ_=>by simp only[qK,g,wv,nA,D,z,WK];exact⟨hk.1,trivial⟩⟩
  ·exact hk.elim
 case h_10 s x f=>
  obtain⟨j,g,hk⟩:=WE hk;obtain⟨M,G,D,z,hk⟩:=yU hk;split at hk
  ·obtain⟨v,a,e⟩:=Mv hk;exact⟨v,a,λ_=>by simpa only[qK,g,wv,nA,D,z]using e⟩
  ·exact hk.elim
 case h_11 t x i=>
  obtain⟨j,g,hk⟩:=WE hk;obtain⟨H,B,hk⟩:=WE hk;split at hk
  ·have w:=(by assumption:P.underlying t=some _);rw[WK]at hk;obtain⟨a,E,rfl,e,p,r⟩:=hk;exact⟨_,r,λ_=>by simp only[qK,g,B,wv,w,WK];exact⟨a,E,rfl,e,p,rfl⟩⟩
  ·have w:=(by assumption:P.underlying t=some _);rw[WK]at hk;obtain⟨a,e,p,r⟩:=hk;exact⟨_,r,λ_=>by simp only[qK,g,B,wv,w,WK];exact⟨a,e,p,rfl⟩⟩
  ·exact hk.elim
 case h_12 t x i=>
  obtain⟨j,g,hk⟩:=WE hk;obtain⟨H,B,hk⟩:=WE hk;split at hk
  ·have w:=(by assumption:P.underlying t=some _);obtain⟨b,a,e,r⟩:=hk;exact⟨_,r,λ_=>by simp only[qK,g,B,wv,w];exact⟨b,a,e,rfl⟩⟩
  ·exact hk.elim
 case h_13=>simp[GJ]at hp
 case h_14 t i=>
  obtain⟨j,g,hk⟩:=WE hk;split at hk
  ·obtain⟨v,a,e⟩:=uO hk;exact⟨v,a,λ_=>by simpa only[qK,g,wv]using e⟩
  ·exact hk.elim
 case h_15 fn x y=>
  split at hk
  ·rename_i va vb a e;exact⟨_,hk,λ_=>by simp only[qK,a,e]⟩
  ·exact hk.elim
 case h_16 t ps=>
  split at hk
  ·rename_i vs a;obtain⟨v,e,p⟩:=Nv hk;exact⟨v,e,λ_=>by simpa only[qK,a]using p⟩
  ·exact hk.elim
 case h_17 t x lo B mx=>
  obtain⟨j,g,hk⟩:=WE hk;split at hk
  ·rename_i l h m a e p;obtain⟨v,J,L⟩:=Pj hk;exact⟨v,J,λ_=>by simpa only[qK,g,wv,a,e,p]using L⟩
  ·exact hk.elim
 case h_18 t x=>
  obtain⟨j,g,hk⟩:=WE hk;rw[WK]at hk;exact⟨_,hk.2,λ_=>by simp only[qK,g,wv,WK];exact⟨hk.1,trivial⟩⟩
 case h_19=>simp[GJ]at hp
 case h_20 c=>
  split at hk
  ·rename_i x t hc ha ht;unfold l7 at hk;split at hk
   ·exact⟨_,hk,λ_=>by simp only[qK,hc,ha,ht,l7, *]⟩
   ·exact⟨_,hk,λ_=>by simp only[qK,hc,ha,ht,l7, *]⟩
   ·exact⟨_,hk,λ_=>by simp only[qK,hc,ha,ht,l7, *]⟩
   ·rename_i w;simp only[GJ,hc,ht,w]at hp;cases hp
   ·exact hk.elim
  ·rename_i hc ha ht;split at hk
   ·exact⟨_,hk,λ_=>by simp only[qK,hc,ha,ht, *]⟩
   ·exact hk.elim
  ·rename_i hc ha;obtain⟨v,a,e⟩:=BX hk;exact⟨v,a,λ_=>by simpa only[qK,hc,ha]using e⟩
  ·rename_i hc ha;obtain⟨v,a,e⟩:=BX hk;exact⟨v,a,λ_=>by simpa only[qK,hc,ha]using e⟩
  ·exact hk.elim
 ·exact hk.elim
def gE (S:aP)(c:CK)(a:Addr)(K:c.T->Prop):Prop:=∃x,(∀h,S h->cell h a=some (c.v x))/\K x
def sJ (S:aP):List CK->Addr->Nat->(List Value->Prop)->Prop
 | [],_,_,K=>K []
 | c::cs,a,i,K=>gE S c (a.add i) λx=>sJ S cs a (i+1) λvs=>K (c.v x::vs)
def JU (S:aP)(k:IntKind)(c:CK)(m:Option Nat)(n:Int)(K:Option c.T->Prop):Prop:=∃l,(∀h,S h->jo h m k c l)/\K (bU l n)
def LB (S:aP)(k:IntKind)(c:CK)(m:Option Nat)(K:Int->Prop):Prop:=∃l,(∀h,S h->jo h m k c l)/\K (l.length:Int)
def qS (P:Program)(S:aP)(o:Op)(ρ:Env)(K:Value->Prop):Prop:=
 match o with
 | .load t a=>wv (ev ρ a) λv=>match v,j0 P t with
  | .pointer (some a),some (.one c)=>fQ (P.info? t).isSome (gE S c a λx=>K (c.v x))
  | .pointer (some a),some (.agg cs)=>fQ (P.cellsOf t==cs.length) (fQ (P.info? t).isSome (sJ S cs a 0 λvs=>K (.agg vs.toArray)))
  | _,_=>False
 | .lookup t x i ok=>wv (ev ρ x) λvx=>wv (ev ρ i) λvi=>match P.underlying t,vx,vi with
  | some (.map kt et),.map m,.int k n=>match P.underlying kt,oe P et,P.info? et with
   | some (.int k'),some (.one c),some ti=>match ti.zero with
    | some z=>if k=k' then m5 c z λz=>JU S k c m n λo=>K (bif ok then .tuple #[c.v (o.getD z),.bool o.isSome]else c.v (o.getD z))else False
    | none=>False
   | _,_,_=>False
  | _,_,_=>False
 | .call c=>match c.callee,pY ρ c.args.toList,c.argTypes.toList with
  | .builtin .len,some [.map m],[t]=>rT P t λk c=>LB S k c m λz=>K (.int .i64 z)
  | _,_,_=>False
 | _=>False
theorem Jh {S:aP}:∀{cs:List CK} {a:Addr} {i:Nat} {K:List Value->Prop},sJ S cs a i K->∃vs,K vs/\∀h,S h->np cs a i h (· = vs)
 | [],a,i,K,hk=>⟨[],hk,λh _=>rfl⟩
 | c::cs,a,i,K,⟨x,hx,hk⟩=>by
  obtain⟨vs,hK,hall⟩:=Jh hk;refine⟨c.v x::vs,hK,λh b=>?_⟩;have j:np cs a (i+1) h λus=>c.v x::us=c.v x::vs:=by
   have key:∀{cs:List CK} {i:Nat} {K K':List Value->Prop},(∀vs,K vs->K' vs)->np cs a i h K->np cs a i h K':=by
    intro cs
    induction cs with
    | nil=>intro i K K' hh hk;exact hh _ hk
    | cons c cs ih=>
     intro i K K' hh hk;simp only[np]at hk ⊢;cases c<;>(obtain⟨y,g,hk⟩:=hk;exact⟨y,g,ih (λvs e=>hh _ e) hk⟩)
   exact key (λus m=>by rw[m]) (hall h b)
  simp only[np];have d:=hx h b;cases c<;>exact⟨x,d,j⟩
theorem Ld {P:Program}{t:Nat}{K:IntKind->CK->Prop}(h:rT P t K):∃kt et k c,P.underlying t=some (.map kt et)/\P.underlying kt=some (.int k)/\oe P et=some (.one c)/\K k c:=by
 unfold rT at h;split at h
 ·split at h
  ·exact⟨_,_,_,_,by assumption,by assumption,by assumption,h⟩
  ·exact h.elim
 ·exact h.elim
theorem θ {P:Program}{S:aP}{o:Op}{ρ:Env}{K:Value->Prop}(hk:qS P S o ρ K):∃v,K v/\∀h,S h->qK P o ρ h (· = v):=by
 unfold qS at hk;split at hk
 ·obtain⟨N,r,hk⟩:=WE hk;split at hk
  ·rename_i ad c hs;rw[WK]at hk;obtain⟨B,x,A,b⟩:=hk;refine⟨_,b,λh d=>?_⟩;simp only[qK,r,wv,hs,WK];refine⟨B,?_⟩;have u:=A h d;cases c<;>exact⟨x,u,rfl⟩
  ·rename_i ad cs hs;rw[WK,WK]at hk;obtain⟨B,J,hk⟩:=hk;obtain⟨vs,b,j⟩:=Jh hk;refine⟨_,b,λh d=>?_⟩;simp only[qK,r,wv,hs,WK];refine⟨B,J,?_⟩;have key:∀{cs:List CK} {i:Nat} {K K':List Value->Prop},(∀vs,K vs->K' vs)->np cs ad i h K->np cs ad i h K':=by
    intro cs
    induction cs with
    | nil=>intro i K K' hh hk;exact hh _ hk
    | cons c cs ih=>
     intro i K K' hh hk;simp only[np]at hk ⊢;cases c<;>(obtain⟨y,D,hk⟩:=hk;exact⟨y,D,ih (λvs F=>hh _ F) hk⟩)
   exact key (λus p=>by rw[p]) (j h d)
  ·exact hk.elim
 ·obtain⟨M,A,g⟩:=WE hk;obtain⟨R,E,a⟩:=WE g;clear hk g;split at a
  case h_2=>exact a.elim
  rename_i H L m k n p;split at a
  case h_2=>exact a.elim
  rename_i k' c ti hkk hs hti;split at a
  case h_2=>exact a.elim
  rename_i z hz;split at a
  case isFalse=>exact a.elim
  rename_i e;subst e;obtain⟨Q,rfl,l,C,b⟩:=VZ a;refine⟨_,b,λh d=>?_⟩;simp only[qK,A,E,wv,yL,p,hkk,hs,hti,hz,zR];have G:=C h d;rw[Nb];exact⟨l,G,rfl⟩
 ·split at hk
  ·rename_i m t u r ht;obtain⟨H,L,k,c,p,w,s,l,C,b⟩:=Ld hk;refine⟨_,b,λh d=>?_⟩;simp only[qK,u,r,ht,l7,p,w,s];exact⟨l,C h d,rfl⟩
  ·exact hk.elim
 ·exact hk.elim
structure iq (ops:Array Oper) (listed:Array Bool) (D:List Nat):Prop where
 size:listed.size=ops.size
 at_:∀j,j<ops.size->listed[j]?=some (D.contains j)
 lt:∀j∈D,j<ops.size
theorem iq.getD {ops:Array Oper}{listed:Array Bool}{D:List Nat}(h:iq ops listed D){j:Nat}(hj:j<ops.size)(b:Bool):listed.getD j b=D.contains j:=by
 rw[sr,h.at_ j hj];rfl
theorem iq.m9 {ops:Array Oper}{listed:Array Bool}{D:List Nat}(h:iq ops listed D)(j:Nat):listed.getD j false=D.contains j:=by
 rcases kb j ops.size with hj|hj
 ·exact h.getD hj false
 ·rw[sr,Array.getElem?_eq_none (by rw[h.size];exact hj)]
  symm
  simp only[Option.getD_none,r4,decide_eq_false_iff_not];exact λa=>by have:=h.lt j a;omega
theorem iq.start (ops:Array Oper):iq ops (Array.replicate ops.size false) []:=
 ⟨by simp,λj a=>by simp[a],λj a=>by simp at a⟩
theorem iq.cons {ops:Array Oper}{listed:Array Bool}{D:List Nat}(h:iq ops listed D){i:Nat}(hi:i<ops.size):iq ops (listed.setIfInBounds i true) (i::D):=by
 refine⟨by simp[h.size],λj a=>?_,λj a=>?_⟩
 ·by_cases hij:i=j
  ·subst hij;simp[h.size,a]
  ·rw[yf hij,h.at_ j a];have:(j==i)=false:=by simpa using λe=>hij e.symm
   simp only[List.contains_cons,this,vJ]
 ·rcases zX.1 a with rfl|h'
  ·exact hi
  ·exact h.lt j h'
def mA (ops:Array Oper)(D:List Nat)(i:Nat):Bool:=match ops[i]? with
 | none=>false
 | some o=>!D.contains i&&o.after.toList.all λe=>!Region.binds .any e||D.contains e.on
def Aq (ops:Array Oper)(D:List Nat)(i:Nat):Bool:=match ops[i]? with
 | none=>false
 | some oi=>(List.range ops.size).all λj=>Nat.beq j i||(D.contains j||match ops[j]? with
  | some oj=>oj.after.toList.any (λe=>Region.binds .any e&&Nat.beq e.on i)||oi.apart ops oj
  | none=>true)
theorem AF {ops:Array Oper}{D:List Nat}{i:Nat}(h:mA ops D i=true):i<ops.size:=by
 unfold mA at h;split at h
 ·cases h
 ·rename_i o ho;exact(jP.1 ho).1
theorem G5 {ops:Array Oper}{listed:Array Bool}{D:List Nat}(h:iq ops listed D)(i:Nat):i∈Region.ready .any ops listed↔mA ops D i=true:=by
 rw[mem_ready];unfold mA;cases ho:ops[i]? with
 | none=>simp
 | some o=>
  have d:i<ops.size:=(jP.1 ho).1;simp only[h.getD d,Option.some.injEq,exists_eq_left',zE,mM,kf,nr];constructor
  ·rintro⟨h1,h2⟩;refine⟨h1,λe a=>?_⟩;cases b:Region.binds .any e
   ·exact .inl rfl
   ·right;have:=h2 e (by simpa using a) b
    rwa [h.m9]at this
  ·rintro⟨h1,h2⟩;refine⟨h1,λe a b=>?_⟩;have:=h2 e (by simpa using a);rw[b]at this;rw[h.m9];simpa using this
theorem Gg {ops:Array Oper}{listed:Array Bool}{D:List Nat}(h:iq ops listed D){i:Nat}(hf:Aq ops D i=true):Region.free .any ops listed i=true:=by
 unfold Aq at hf;unfold Region.free;cases ho:ops[i]? with
 | none=>rw[ho]at hf;cases hf
 | some oi=>
  rw[ho]at hf;simp only[kf,zh]at hf ⊢;intro j hj;have:=hf j hj;rw[h.getD hj];simp only[nr]at this ⊢;rcases this with h1|h1|h1
  ·exact .inl (.inl (by simpa using jZ h1))
  ·exact .inl (.inr h1)
  ·right;split at h1
   ·rename_i oj hoj;simp only[hoj,nr]at h1 ⊢;rcases h1 with h1|h1
    ·left;rw[zy]at h1;obtain⟨e,b,a⟩:=h1;simp only[zE]at a;rw[Array.any_eq_true'];exact⟨e,by simpa using b,by simp[a.1,jZ a.2]⟩
    ·exact .inr h1
   ·rename_i hoj;simp[hoj]
inductive SH where
 | done
 | take (i:Nat) (r:SH)
 | split (c:Nat) (t f:SH)
 | all (l:List (Nat×SH))
def SH.tk:List Nat->SH->SH
 |[],s=>s
 |i::l,s=>.take i (SH.tk l s)
def Sx (sm:Bool)(S:aP)(h:Hp)(X:Prop):Prop:=match sm with
 | true=>S h/\X
 | false=>X
def shut (C D:List Nat):Bool:=C.any λk=>D.contains k
def uh (f:Nat->SH->Prop):List (Nat×SH)->Prop
 | []=>True
 | [x]=>f x.1 x.2
 | x::y::l=>f x.1 x.2/\uh f (y::l)
def UD (P:Program)(N:Nat)(ops:Array Oper)(sm:Bool)(C:List Nat)(S:aP)(K:Env->Hp->Prop):Nat->Nat->SH->List Nat->Env->Hp->Prop
 | 0,_,_,_,_,_=>False
 | n+1,_,.done,D,ρ,h=>fQ ((List.range ops.size).all λj=>D.contains j) (K ρ h)
 | n+1,m+1,.take i r,D,ρ,h=>match ops[i]? with
  | some o=>fQ (mA ops D i&&(Aq ops D i&&(qL N o.dst && !C.contains i)))
   (bif tv ops o ρ then UD P N ops sm C S K n m r (i::D) (ρ.ig o.dst undef) h
    else fQ (GU ops o ρ) (bif GJ P o.op then qK P o.op ρ h λv=>UD P N ops sm C S K n m r (i::D) (ρ.ig o.dst v) h
     else fQ (sm&&((C.all λk=>vX ops k i) && !shut C D)) (qS P S o.op ρ λv=>UD P N ops sm C S K n m r (i::D) (ρ.ig o.dst v) h)))
  | none=>False
 | n+1,m,.split c t f,D,ρ,h=>UF ρ (.tmp c) λb=>If b (UD P N ops sm C S K n m t D (ρ.put c (.bool true)) h) (UD P N ops sm C S K n m f D (ρ.put c (.bool false)) h)
 | n+1,m+1,.all l,D,ρ,h=>fQ ((!l.isEmpty&&l.all λx=>Nat.blt x.1 ops.size)&&((List.range ops.size).all λj=>mA ops D j==l.any λx=>Nat.beq x.1 j))
  (uh (λi r=>match ops[i]? with
   | some o=>fQ (qL N o.dst) (bif tv ops o ρ then Sx (sm && !shut C (i::D)) S h (UD P N ops sm C S K n m r (i::D) (ρ.ig o.dst undef) h)
    else fQ (GU ops o ρ) (su P o.op o.type ρ h λv h'=>Sx (sm && !shut C (i::D)) S h' (UD P N ops sm C S K n m r (i::D) (ρ.ig o.dst v) h')))
   | none=>False) l)
 | _,_,_,_,_,_=>False
def dZ (h:Hp)(body:(Hp->Prop)->Prop):Prop:=∃S:Hp->Prop,S h/\body S
theorem Fq {f:Nat->SH->Prop}:∀{l:List (Nat×SH)},uh f l->∀x∈l,f x.1 x.2
 | [],_,x,hx=>by simp at hx
 | [y],h,x,hx=>by simp at hx;subst hx;exact h
 | y::z::l,h,x,hx=>by
  rcases zX.1 hx with rfl|hx
  ·exact h.1
  ·exact Fq h.2 x hx
theorem xj {ds:List Nat}{ρ ρ':Env}{ops:Array Oper}{i:Nat}{o:Oper}(ho:ops[i]?=some o){v:Value}
 (k:∀j,(ops.toList.filterMap (·.dst)).contains j=false->∀u,(ρ.ig o.dst v) j=some u->ρ' j=some u):∀j,(ops.toList.filterMap (·.dst)).contains j=false->∀u,ρ j=some u->ρ' j=some u:=by
 intro j hj u hu;refine k j hj u ?_;cases hd:o.dst with
 | none=>exact hu
 | some d=>
  simp only[Env.ig,Env.put];cases hb:Nat.beq j d
  ·exact hu
  ·have e:j=d:=jZ hb;subst e;exfalso;simp only[r4,decide_eq_false_iff_not,vG,not_exists,not_and]at hj;refine hj o ?_ hd;have:=yH ho;simpa using this
def TD (S:aP)(C D:List Nat)(h:Hp):Prop:=S h\/shut C D=true
theorem TD.ts {S:aP}{C D:List Nat}{ops:Array Oper}{listed:Array Bool}{w:World}(hD:iq ops listed D)(h:TD S C D w.heap):TS (λw=>S w.heap) C listed w:=by
 refine h.imp id λa=>?_;unfold shut at a;rw[zy]at a;obtain⟨k,b,d⟩:=a;exact⟨k,b,by rw[hD.m9];exact d⟩
theorem Ni {C D:List Nat}{ops:Array Oper}{listed:Array Bool}(hD:iq ops listed D)(h:shut C D=false):∀k∈C,listed.getD k false=false:=by
 intro k hk;unfold shut at h;rw[mc]at h;rw[hD.m9];simpa using h k hk
theorem Lo {C D:List Nat}{i:Nat}(h:shut C D=true):shut C (i::D)=true:=by
 unfold shut at *;rw[zy]at *;obtain⟨k,a,b⟩:=h;refine⟨k,a,?_⟩;rw[Ae]at *;exact mS _ b
theorem Fb {sm:Bool}{S:aP}{C D:List Nat}{h:Hp}{X:Prop}(hs:sm=false->∀h,S h)(hx:Sx (sm && !shut C D) S h X):TD S C D h/\X:=by
 cases hc:shut C D
 ·rw[hc]at hx;simp only[wS,u9]at hx;cases sm
  ·exact⟨.inl (hs rfl h),hx⟩
  ·exact⟨.inl hx.1,hx.2⟩
 ·rw[hc]at hx;simp only[Bool.not_true,tW]at hx;exact⟨.inr hc,hx⟩
theorem Qd {P:Program}{N:Nat}{ops:Array Oper}{sm:Bool}{C:List Nat}{S:aP}{K:Env->Hp->Prop}{Qn:Act->World->Prop}(hsel:Region.noSelect ops=true)(hsm:sm=false->∀h,S h):∀(n m:Nat) {sh:SH} {D:List Nat} {ρ:Env} {a:Act} {w:World} {listed:Array Bool},
 UD P N ops sm C S K n m sh D ρ w.heap->Fits N ρ a->iq ops listed D->TD S C D w.heap->(∀ρ' a' w',Fits N ρ' a'->Xt w w'->V2 ops.toList ρ ρ'->K ρ' w'.heap->Qn a' w') →
 anyS P ops (λe a w=>match e with | .normal=>Qn a w|_=>False) (λw=>S w.heap) C m listed a w
 | 0,m,sh,D,ρ,a,w,listed,h,hf,hD,hS,hK=>(by simp only[UD]at h)
 | n+1,m,.done,D,ρ,a,w,listed,h,hf,hD,hS,hK=>by
  have h':fQ ((List.range ops.size).all λj=>D.contains j) (K ρ w.heap):=by cases m<;>exact h
  rw[WK]at h';refine ν ?_ (hK ρ a w hf (.refl _) (λ_ _ _ h=>h) h'.2) m;rw[List.eq_nil_iff_forall_not_mem];intro j hj;have B:=(G5 hD j).1 hj;have:=kf.1 h'.1 j (zh.2 (AF B));unfold mA at B;split at B
  ·cases B
  ·rw[this]at B;simp at B
 | n+1,0,.take i r,D,ρ,a,w,listed,h,hf,hD,hS,hK=>(by simp only[UD]at h)
 | n+1,m+1,.take i r,D,ρ,a,w,listed,h,hf,hD,hS,hK=>by
  simp only[UD]at h;split at h
  case h_2=>exact h.elim
  rename_i o ho;rw[WK]at h;obtain⟨X,h⟩:=h;simp only[zE,mM]at X;obtain⟨Z,V,s,R⟩:=X;have H:=AF Z;have z:i∈Region.ready .any ops listed:=(G5 hD i).2 Z;have p:TD S C (i::D) w.heap:=hS.imp id Lo;cases hg:tv ops o ρ
  ·rw[hg]at h;simp only[cond_false]at h;rw[WK]at h;obtain⟨U,h⟩:=h;have hw:=Zw hf U;cases hp:GJ P o.op
   ·rw[hp]at h;simp only[cond_false]at h;rw[WK]at h;obtain⟨L,h⟩:=h;simp only[zE,mM,kf]at L;obtain⟨v,J,G⟩:=θ h;refine C9 (T:=λw=>S w.heap) ho hsel (Gg hD V) z (λ_ _ _ h=>h) R (.inr ⟨λ_ h=>h,L.2.1⟩) (.inr (Ni hD L.2.2)) (v:=v) (.inl ⟨hw,λw' p=>?_⟩) (hS.ts hD) ?_
    ·obtain⟨u,B,rfl⟩:=xP hf.ev o (G w'.heap p);exact B
    ·exact Qd hsel hsm n m J (hf.put s v) (hD.cons H) p λρ' a' w' g F E d=>hK ρ' a' w' g F (xj (ds:=[]) ho E) d
   ·rw[hp]at h;simp only[cond_true]at h;obtain⟨v,J,G⟩:=NO hp h;refine C9 (T:=λ_=>True) ho hsel (Gg hD V) z (λ_ _ _ h=>h) R (.inl λ_=>trivial) (.inl λ_=>trivial) (v:=v) (.inl ⟨hw,λw' _=>?_⟩) (hS.ts hD) ?_
    ·obtain⟨u,B,rfl⟩:=xP hf.ev o (G w'.heap);exact B
    ·exact Qd hsel hsm n m J (hf.put s v) (hD.cons H) p λρ' a' w' g F E d=>hK ρ' a' w' g F (xj (ds:=[]) ho E) d
  ·rw[hg]at h;simp only[cond_true]at h;refine C9 (T:=λ_=>True) ho hsel (Gg hD V) z (λ_ _ _ h=>h) R (.inl λ_=>trivial) (.inl λ_=>trivial) (v:=undef) (.inr ⟨Vj hf hg,rfl⟩) (hS.ts hD) ?_;exact Qd hsel hsm n m h (hf.put s undef) (hD.cons H) p λρ' a' w' g F E d=>hK ρ' a' w' g F (xj (ds:=[]) ho E) d
 | n+1,m,.split c t f,D,ρ,a,w,listed,h,hf,hD,hS,hK=>by
  have h':UF ρ (.tmp c) λb=>If b (UD P N ops sm C S K n m t D (ρ.put c (.bool true)) w.heap) (UD P N ops sm C S K n m f D (ρ.put c (.bool false)) w.heap):=by cases m<;>exact h
  obtain⟨b,hb,h12⟩:=KQ h';have A:=λe=>h12.t e;have h2:=λe=>h12.f e;have W:ρ c=some (.bool b):=hb;have kk:∀(b':Bool),b=b'->∀ρ',V2 ops.toList (ρ.put c (.bool b')) ρ'->V2 ops.toList ρ ρ':=by
   intro b' e ρ' k i H u hu;refine k i H u ?_;simp only[Env.put];cases hic:Nat.beq i c
   ·exact hu
   ·have e2:i=c:=jZ hic;subst e2;rw[W]at hu;simp only[cond_true];rw[←e];exact hu
  cases b
  ·exact Qd hsel hsm n m (h2 rfl) (hf.lit W rfl) hD hS λρ' a' w' g F E d=>hK ρ' a' w' g F (kk false rfl ρ' E) d
  ·exact Qd hsel hsm n m (A rfl) (hf.lit W rfl) hD hS λρ' a' w' g F E d=>hK ρ' a' w' g F (kk true rfl ρ' E) d
 | n+1,0,.all l,D,ρ,a,w,listed,h,hf,hD,hS,hK=>(by simp only[UD]at h)
 | n+1,m+1,.all l,D,ρ,a,w,listed,h,hf,hD,hS,hK=>by
  simp only[UD]at h;rw[WK]at h;obtain⟨X,h⟩:=h;simp only[zE,mM,kf,zh,zT]at X;obtain⟨⟨hne,hlt⟩,Y⟩:=X;have hmem:∀j,j∈Region.ready .any ops listed->∃r,(j,r)∈l:=by
   intro j hj;have B:=(G5 hD j).1 hj;have:=Y j (AF B);rw[B]at this;have:=zy.1 this.symm;obtain⟨x,hx,hb⟩:=this;have e:x.1=j:=jZ hb;exact⟨x.2,by rw[←e];exact hx⟩
  refine OQ (rs:=Region.ready .any ops listed) rfl ?_ λj hj=>?_
  ·intro hnil
   match l,hne with
   | x::l',_=>
    have hx:=Nat.blt_eq.mp (hlt x aA);have:=Y x.1 hx;have hany:(x::l').any (λy=>Nat.beq y.1 x.1)=true:=zy.2 ⟨x,by simp,by simp⟩;rw[hany]at this;have:=(G5 hD x.1).2 this;rw[hnil]at this;simp at this
  ·obtain⟨r,B⟩:=hmem j hj;have A:=Fq h (j,r) B;simp only at A;split at A
   case h_2=>exact A.elim
   rename_i o ho;have H:j<ops.size:=(jP.1 ho).1;rw[WK]at A;obtain⟨s,A⟩:=A;unfold wpOp;simp only[ho];cases hg:tv ops o ρ
   ·rw[hg]at A;simp only[cond_false]at A;rw[WK]at A;obtain⟨U,A⟩:=A;rw[zC (Zw hf U)];refine .inl (Ke.upon (U1 hf.ev o A) λv w' F J=>?_);obtain⟨p,J⟩:=Fb hsm J;exact⟨p.ts (hD.cons H),Qd hsel hsm n m J (hf.put s v) (hD.cons H) p λρ' a' Q g M E d=>hK ρ' a' Q g (F.trans M) (xj (ds:=[]) ho E) d⟩
   ·rw[hg]at A;simp only[cond_true]at A;rw[Vj hf hg];simp only[zZ,zp];obtain⟨p,J⟩:=Fb hsm A;exact⟨p.ts (hD.cons H),Qd hsel hsm n m J (hf.put s undef) (hD.cons H) p λρ' a' Q g M E d=>hK ρ' a' Q g M (xj (ds:=[]) ho E) d⟩
def xZ (P:Program)(N:Nat)(sm:Bool)(C:List Nat)(sh:SH)(ops:Array Oper)(ρ:Env)(h:Hp)(K:Env->Hp->Prop):Prop:=
 match sm with
 | true=>dZ h λS=>UD P N ops true C S K 400 ops.size sh [] ρ h
 | false=>UD P N ops false C (λ_=>True) K 400 ops.size sh [] ρ h
theorem UM {P:Program}{N id:Nat}{ops:Array Oper}{sm:Bool}{C:List Nat}{sh:SH}{K:Env->Hp->Prop}{ρ:Env}{a:Act}{w:World}{Q:Exit->Act->World->Prop}
 (hm:P.follows .mixedOrders=true) (hsel:Region.noSelect ops=true) (h:xZ P N sm C sh ops ρ w.heap K)
 (hf:Fits N ρ a) (hK:∀ρ' a' w',Fits N ρ' a'->Xt w w'->V2 ops.toList ρ ρ'->K ρ' w'.heap->Q .normal a' w'):(Code.region id ops true).wp P Q a w:=by
 refine wp_mono (Q:=λe a w=>match e with | .normal=>Q .normal a w|_=>False) ?_ (λe a w j=>by cases e<;>first|exact j|exact j.elim)
 have hd:Xt w {w with drawn:=w.drawn+1}:=⟨rfl,rfl,rfl,zD _⟩;cases sm
 ·exact U6 (S:=λw=>True) hm (Qd (S:=λ_=>True) (w:={w with drawn:=w.drawn+1}) (Qn:=Q .normal) hsel (λ_ _=>trivial) 400 ops.size h hf (iq.start ops) (.inl trivial) λρ' a' w' b d i g=>hK ρ' a' w' b (hd.trans d) i g)
 ·obtain⟨S,m,h⟩:=h;exact U6 hm (Qd (S:=S) (w:={w with drawn:=w.drawn+1}) (Qn:=Q .normal) hsel (λe=>by cases e) 400 ops.size h hf (iq.start ops) (.inl m) λρ' a' w' b d i g=>hK ρ' a' w' b (hd.trans d) i g)
abbrev Js:=List (Nat×SK)
def l9 (js:Js):List CK:=eU (js.map (·.2))
def uj (ρ:Env):Js->Option (List Value)
 | []=>some []
 | (i,.one _)::js=>match ρ i,uj ρ js with|some v,some vs=>some (v::vs)|_,_=>none
 | (i,.agg cs)::js=>match ρ i,uj ρ js with
  | some (.agg a),some vs=>bif a.size==cs.length then some (a.toList++vs)else none
  | _,_=>none
def sD (js:Js)(ρ:Env)(J:eL (l9 js))(h:Hp):Prop:=match uj ρ js with
 | some vs=>sg (l9 js) J vs h
 | none=>False
def iy:Env->Js->List Value->Env
 | ρ,[],_=>ρ
 | ρ,(i,.one _)::js,v::vs=>iy (ρ.put i v) js vs
 | ρ,(i,.one _)::js,[]=>iy ρ js []
 | ρ,(i,.agg cs)::js,vs=>iy (ρ.put i (.agg (vs.take cs.length).toArray)) js (vs.drop cs.length)
def Jn (ks:List CK)(K:eL ks)(body:eL ks->Prop):Prop:=∃J:eL ks,eL.le ks J K/\body J
theorem eL.le_refl:∀(ks:List CK) (R:eL ks),eL.le ks R R
 | [],_=>λ_ h=>h
 | _::cs,_=>λ_=>eL.le_refl cs _
theorem Jn.intro {ks:List CK}{K:eL ks}{body:eL ks->Prop}(h:body K):Jn ks K body:=⟨K,eL.le_refl ks K,h⟩
def my (ds:List Nat)(i:Nat):Bool:=ds.contains i
def Vo (ds:List Nat)(ρ ρ':Env):Prop:=∀i,ds.contains i=false->∀v,ρ i=some v->ρ' i=some v
theorem Vo.trans {d1 d2:List Nat}{a b c:Env}(h:Vo d1 a b)(k:Vo d2 b c):Vo (d1++d2) a c:=by
 intro i hi v hv;simp only[r4,zK,decide_eq_false_iff_not,not_or]at hi;exact k i (by simpa using hi.2) v (h i (by simpa using hi.1) v hv)
theorem Vo.mono {d1 d2:List Nat}{a b:Env}(h:Vo d1 a b)(hs:∀i,i∈d1->i∈d2):Vo d2 a b:=by
 intro i hi v hv;refine h i ?_ v hv;simp only[r4,decide_eq_false_iff_not]at hi ⊢;exact λd=>hi (hs i d)
theorem Vo.refl (ds:List Nat)(a:Env):Vo ds a a:=λ_ _ _ h=>h
theorem KR (ds:List Nat):∀(js:Js) (ρ:Env) (vs:List Value),(js.all λs=>my ds s.1)=true->Vo ds ρ (iy ρ js vs)
 | [],ρ,vs,_=>by simp only[iy];exact .refl _ _
 | (i,.one c)::js,ρ,[],h=>by
  simp only[vq,zE]at h;simp only[iy];exact KR ds js ρ [] h.2
 | (i,.one c)::js,ρ,v::vs,h=>by
  simp only[vq,zE]at h;simp only[iy];intro j hj u hu;refine KR ds js _ vs h.2 j hj u ?_;simp only[Env.put];cases hb:Nat.beq j i
  ·exact hu
  ·have e:j=i:=jZ hb;subst e;simp only[my]at h;rw[hj]at h;cases h.1
 | (i,.agg cs)::js,ρ,vs,h=>by
  simp only[vq,zE]at h;simp only[iy];intro j hj u hu;refine KR ds js _ _ h.2 j hj u ?_;simp only[Env.put];cases hb:Nat.beq j i
  ·exact hu
  ·have e:j=i:=jZ hb;subst e;simp only[my]at h;rw[hj]at h;cases h.1
theorem KB {N:Nat}:∀(js:Js) {ρ ρ':Env} {a:Act} {vs:List Value},Fits N ρ a->Fits N ρ' a->uj ρ' js=some vs->Fits N (iy ρ js vs) a
 | [],ρ,ρ',a,vs,h,_,_=>h
 | (i,.one c)::js,ρ,ρ',a,vs,h,h',hv=>by
  simp only[uj]at hv;split at hv
  ·rename_i v vs' h1 h2;cases hv;simp only[iy];refine KB js ⟨h.defers,h.size,λj u hu=>?_⟩ h' h2;simp only[Env.put]at hu;cases hb:Nat.beq j i
   ·rw[hb]at hu;exact h.at_ j u hu
   ·have e:j=i:=jZ hb;subst e;rw[hb]at hu;simp only[cond_true,Option.some.injEq]at hu;subst hu;exact h'.at_ j _ h1
  ·cases hv
 | (i,.agg cs)::js,ρ,ρ',a,vs,h,h',hv=>by
  simp only[uj]at hv;split at hv
  ·rename_i ar vs' h1 h2;cases hs:(ar.size==cs.length)
   ·rw[hs]at hv;cases hv
   ·rw[hs]at hv;simp only[cond_true,Option.some.injEq]at hv;subst hv;have b:ar.toList.length=cs.length:=by simpa using hs
    simp only[iy];rw[←b,List.take_left,List.drop_left];refine KB js ⟨h.defers,h.size,λj u hu=>?_⟩ h' h2;simp only[Env.put]at hu;cases hb:Nat.beq j i
    ·rw[hb]at hu;exact h.at_ j u hu
    ·have e:j=i:=jZ hb;subst e;rw[hb]at hu;simp only[cond_true,Option.some.injEq]at hu;subst hu;simpa using h'.at_ j _ h1
  ·cases hv
theorem Hg {js:Js}{ρ:Env}{J:eL (l9 js)}{h:Hp}(hj:sD js ρ J h):∃vs,uj ρ js=some vs/\Sat (l9 js) J vs h:=by
 unfold sD at hj;split at hj
 ·exact⟨_,by assumption,Ha hj⟩
 ·exact hj.elim
theorem V7 {N:Nat}{ds:List Nat}{ρ ρ':Env}{a:Act}(h:Fits N ρ' a)(k:Vo ds ρ ρ'):Fits N (ρ.dW ds) a:=by
 refine h.weaken λi v b=>?_;simp only[Env.dW]at b;cases hc:ds.contains i
 ·rw[hc]at b;exact k i hc v b
 ·rw[hc]at b;cases b
theorem UV (ds:List Nat)(ρ:Env):Vo ds ρ (ρ.dW ds):=by
 intro i hi v hv;simp only[Env.dW,hi];exact hv
def Ad:Op->Bool
 | .pick .. => true
 | _=>false
def kF (os:List Oper):Bool:=os.all λo=>tU o.op||Ad o.op
theorem V5 {P:Program}{N:Nat}{ops:Array Oper}{Q:Act->Prop}{w:World}:∀(n:Nat) {hs:List RI} {os:List Oper} {tail:List Oper} {ρ:Env} {a:Act} {K:Env->Hp->Prop},
 eD P N ops n hs os ρ w.heap K->kF os=true->Fits N ρ a->(∀ρ' a',Fits N ρ' a'->V2 os ρ ρ'->K ρ' w.heap->wpStill P ops w Q tail a')->wpStill P ops w Q (os++tail) a
 | 0,_,_,_,_,_,_,h,_,_,_=>(by simp only[eD]at h)
 | n+1,[],[],tail,ρ,a,K,h,hq,hf,hK=>by
  simp only[eD]at h;exact hK ρ a hf (λ_ _ _ h=>h) h
 | n+1,[],o::os,tail,ρ,a,K,h,hq,hf,hK=>(by simp only[eD]at h)
 | n+1,.op::hs,[],tail,ρ,a,K,h,hq,hf,hK=>(by simp only[eD]at h)
 | n+1,.it ki c::hs,[],tail,ρ,a,K,h,hq,hf,hK=>(by simp only[eD]at h)
 | n+1,.it ki c::hs,o::os,tail,ρ,a,K,h,hq,hf,hK=>by
  simp only[eD]at h;rw[WK]at h;simp only[kF,vq,zE,nr]at hq;have h2:=h.2;unfold x8 at h2;split at h2
  ·rename_i heq;rw[heq]at hq;simp[tU,Ad]at hq
  ·rename_i heq;rw[heq]at hq;simp[tU,Ad]at hq
  ·exact h2.elim
 | n+1,.op::hs,o::os,tail,ρ,a,K,h,hq,hf,hK=>by
  simp only[eD]at h;rw[WK]at h;obtain⟨C,h⟩:=h;simp only[zE]at C;have Z:=Zw hf C.1;simp only[kF,vq,zE,nr]at hq;have Y:tU o.op=true:=by
   rcases hq.1 with h1|h1
   ·exact h1
   ·unfold Ad at h1;split at h1
    ·rename_i heq;rw[heq];rfl
    ·cases h1
  unfold su at h;rw[Y]at h;obtain⟨v,S,A⟩:=xP hf.ev o h;simp only[lp,wpStill,Z,zR,Oper.still,S,Oper.stillUpon];exact⟨trivial,V5 n A (by simpa[kF]using hq.2) (hf.put C.2 v) λρ' a' g G u=>hK ρ' a' g G.cons u⟩
 | n+1,.cR and m inner::hs,os,tail,ρ,a,K,h,hq,hf,hK=>by
  simp only[eD]at h;split at h
  case h_2=>exact h.elim
  rename_i pk rest hdrop;split at h
  case h_2=>exact h.elim
  rename_i c x y d hop hd;split at h
  case h_2=>exact h.elim
  rename_i b hb;rw[WK]at h;obtain⟨C,J,hJ,h⟩:=h;simp only[zE]at C;obtain⟨ae,D,ad,U,s⟩:=C;have R:os++tail=os.take m++(pk::rest++tail):=by
   rw[←hdrop,←zr,oa]
  have ab:kF (os.take m)=true:=by
   rw[kF,kf]at hq ⊢;exact λo W=>hq o (uK W)
  have ac:kF rest=true:=by
   rw[kF,kf]at hq ⊢;exact λo W=>hq o (tG (i:=m) (by rw[hdrop];exact mS _ W))
  rw[R];have j:∀(r b':Bool) (z:Operand) a',b=b'->(bif b' then x else y)=z->Fits N (ρ.dW ((os.take m).filterMap (·.dst))) a'->J r w.heap->Region.wanted pk (yielded ops a'.tmps)=true →
   a'.eval (.tmp c)=.bool b'->a'.eval z=.bool r->wpStill P ops w Q (pk::rest++tail) a':=by
   intro r b' z a' e ez g F Z B hez;have H:(execOp a'.eval pk).run P w=.ok (.value (.bool r)) w:=by
    obtain⟨dst,op,ty,pos,aft,X⟩:=pk;simp only at hop;subst hop;subst ez;cases b'<;>simp at hez<;>simp[execOp,B,asBool,hez]
   simp only[lp,wpStill,Z,zR,Oper.still,H,Oper.stillUpon];have M:=g.put (d:=some d) ae (.bool r);rw[hd];exact⟨trivial,V5 n (hJ _ _ F) ac M λρ' aa E G u=>hK ρ' aa E (V2.cR hd hdrop G) u⟩
  have run:∀(b':Bool) (z:Operand),b=b'->(bif b' then x else y)=z →
   eD P N ops n inner (os.take m) (ρ.put c (.bool b')) w.heap (λρ' h'=>fQ (GU ops pk ρ'&&sf ρ' c b') (UF ρ' z λr=>J r h'))->wpStill P ops w Q (os.take m++(pk::rest++tail)) a:=by
   intro b' z e ez hseg;refine V5 n hseg ab (hf.lit hb e) λρ' a' g G A=>?_;rw[WK]at A;simp only[zE]at A;obtain⟨⟨hg,V⟩,A⟩:=A;obtain⟨r,S,F⟩:=KQ A;exact j r b' z a' e ez (g.uZ hb e G) F (Zw g hg) (g.ev _ _ (UZ V)) (g.ev _ _ S)
  have p:∀(b':Bool),b=b'->b' = !and->J (!and) w.heap->wpStill P ops w Q (os.take m++(pk::rest++tail)) a:=by
   intro b' e eb F;subst eb;refine JB s (hf.lit hb e) λa' g=>?_;have L:Fits N (ρ.dW ((os.take m).filterMap (·.dst))) a':=g.uZ (ρ':=(ρ.put c (.bool (!and))).dW ((os.take m).filterMap (·.dst))) hb e (λi hi v hv=>by simp only[Env.dW,hi];exact hv);have B:=g.ev (.tmp c) _ (UZ U);refine j (!and) (!and) (bif (!and)then x else y) a' e rfl L F (Zw L ad) B ?_;refine BI ?_ _ (λv=>rfl);cases and<;>exact D
  cases and
  ·simp only[cond_false]at h;cases b
   ·exact run false y rfl rfl (h.f rfl)
   ·exact p true rfl rfl (h.t rfl)
  ·simp only[cond_true]at h;cases b
   ·exact p false rfl rfl (h.f rfl)
   ·exact run true x rfl rfl (h.t rfl)
inductive RH where
 | seq (hs:List RI)
 | quiet (hs:List RI)
 | tail (n:Nat) (hs1 hs2:List RI)
 | held (sm:Bool) (C:List Nat) (sh:SH)
 | gH (sm:Bool) (C:List Nat) (js:Js) (sh:SH)
def uY (ops:Array Oper):List Nat:=ops.toList.filterMap (·.dst)
def mK (P:Program)(N:Nat)(r:RH)(ops:Array Oper)(draw:Bool)(ρ:Env)(h:Hp)(K:Env->Hp->Prop):Prop:=
 match r,draw with
 | .seq hs,false=>eD P N ops 400 hs ops.toList ρ h K
 | .quiet hs,true=>fQ (P.follows .mixedOrders&&(Region.lexB .any ops&&kF ops.toList)) (eD P N ops 400 hs ops.toList ρ h K)
 | .tail n hs1 hs2,true=>fQ (P.follows .mixedOrders&&(Region.lexTailB .any ops n&&kF (ops.toList.take n)))
  (eD P N ops 400 hs1 (ops.toList.take n) ρ h λρ' h'=>eD P N ops 400 hs2 (ops.toList.drop n) ρ' h' K)
 | .held sm C sh,true=>fQ (P.follows .mixedOrders&&Region.noSelect ops) (xZ P N sm C sh ops ρ h K)
 | .gH sm C js sh,true=>fQ (P.follows .mixedOrders&&(Region.noSelect ops&&js.all λs=>my (uY ops) s.1))
  (Jn (l9 js) (lam (l9 js) λvs h'=>K (iy (ρ.dW (uY ops)) js vs) h') λJ=>xZ P N sm C sh ops ρ h λρ' h'=>sD js ρ' J h')
 | _,_=>False
theorem EL {P:Program}{N id:Nat}{r:RH}{ops:Array Oper}{draw:Bool}{ρ:Env}{a:Act}{w:World}{K:Env->Hp->Prop}{Q:Exit->Act->World->Prop}
 (h:mK P N r ops draw ρ w.heap K) (hf:Fits N ρ a) (hK:∀ρ' a' w',Fits N ρ' a'->Xt w w'->V2 ops.toList ρ ρ'->K ρ' w'.heap->Q .normal a' w'):(Code.region id ops draw).wp P Q a w:=by
 unfold mK at h;split at h
 ·rename_i z;refine wp_region_list ?_;have:=KU (Q:=Q) (tail:=[]) 400 h hf λρ' a' w' d s j g=>hK ρ' a' w' d s j g;simpa using this
 ·rename_i z;rw[WK]at h;simp only[zE]at h;obtain⟨⟨p,E,F⟩,h⟩:=h;refine wp_region_still p E ?_;have:=V5 (w:={w with drawn:=w.drawn+1}) (Q:=λa'=>Q .normal a' {w with drawn:=w.drawn+1}) (tail:=[]) 400 h F hf λρ' a' d j g=>hK ρ' a' _ d ⟨rfl,rfl,rfl,zD _⟩ j g;simpa using this
 ·rename_i n hs1 hs2;rw[WK]at h;simp only[zE]at h;obtain⟨⟨p,E,F⟩,h⟩:=h;obtain⟨l,rfl⟩:∃l:List Oper,ops=l.toArray:=⟨ops.toList,by simp⟩;refine wp_region_still_tail n p E ?_;have:=V5 (w:={w with drawn:=w.drawn+1}) (ops:=l.toArray) (Q:=λa'=>wpList P l.toArray Q (l.drop n) a' {w with drawn:=w.drawn+1}) (tail:=[]) 400 h (by simpa using F) hf (λρ' a' d j g=>by
   have:=KU (Q:=Q) (tail:=[]) (w:={w with drawn:=w.drawn+1}) 400 g d λH A C u s B G=>hK H A C u (Xt.trans (b:={w with drawn:=w.drawn+1}) ⟨rfl,rfl,rfl,zD _⟩ s) (λi e v y=>?_) G
   ·simpa[wpStill]using this
   ·rw[show l.toArray.toList=l.take n++l.drop n by simp,vI]at e;simp only[r4,zK,decide_eq_false_iff_not,not_or]at e;exact B i (by simpa using e.2) v (j i (by simpa using e.1) v y))
  simpa using this
 ·rename_i sm sh;rw[WK]at h;simp only[zE]at h;exact UM h.1.1 h.1.2 h.2 hf hK
 ·rename_i sm js sh;rw[WK]at h;simp only[zE]at h;obtain⟨⟨p,m,x⟩,J,L,h⟩:=h;refine UM p m h hf λρ' a' w' d s j g=>?_;obtain⟨vs,y,z⟩:=Hg g;have D:=Uj (z.mono L);refine hK _ a' w' (KB js (V7 d j) d y) s ?_ D;exact((UV (uY ops) ρ).trans (KR (uY ops) js (ρ.dW (uY ops)) vs x)).mono λi e=>by
   simp only[zK]at e;rcases e with h|h<;>exact h
 ·exact h.elim
def fK:Code->List Nat
 | .region _ ops _=>uY ops
 | .seq a b=>fK a++fK b
 | .cond _ a b=>fK a++fK b
 | .block _ b=>fK b
 | .loop b=>fK b
 | .scope b=>fK b
 | _=>[]
def GI:(ks:List CK)->eL ks->oJ ks->(Nat->Prop)->eL ks
 | [],I,μ,p=>λh=>I h/\p (μ h)
 | c::cs,I,μ,p=>λx=>GI cs (I x) (μ x) p
def Ya (ks:List CK)(start:eL ks->Prop)(round:eL ks->eL ks):Prop:=
 ∃(I:eL ks) (μ:oJ ks),start I/\∀m:Nat,eL.le ks (GI ks I μ (· = m)) (round (GI ks I μ (· < m)))
inductive Hn where
 | leaf
 | cW (r:RH)
 | seq (a b:Hn)
 | kj (js:Js) (a b:Hn)
 | cond (a b:Hn)
 | block (b:Hn)
 | loop (js:Js) (b:Hn)
 | scope (b:Hn)
def RI.ops:Nat->List RI
 | 0=>[]
 | n+1=>.op::RI.ops n
abbrev Hn.l:Hn:=.leaf
abbrev Hn.q (a b:Hn):Hn:=.seq a b
abbrev Hn.c (a b:Hn):Hn:=.cond a b
abbrev Hn.k (a:Hn):Hn:=.block a
def Hn.o (n:Nat):Hn:=.cW (.seq (RI.ops n))
abbrev Hn.o1:Hn:=.o 1
abbrev Hn.o2:Hn:=.o 2
abbrev Hn.aJ:Hn:=.c (.q .o2 .l) .l
abbrev Hn.aK:Hn:=.c (.q .o1 .l) .l
abbrev Hn.aL:Hn:=.q .o2 .l
abbrev Hn.aM:Hn:=.q .o1 .l
abbrev Hn.o3:Hn:=.o 3
abbrev Hn.o4:Hn:=.o 4
abbrev Hn.o5:Hn:=.o 5
abbrev Hn.o6:Hn:=.o 6
abbrev Hn.o7:Hn:=.o 7
abbrev Hn.o8:Hn:=.o 8
abbrev Hn.o9:Hn:=.o 9
abbrev Hn.fZ:Hn:=.o 10
def Hn.oq (n:Nat):Hn:=.cW (.quiet (RI.ops n))
def vp (next:Env->Hp->Prop)(Q:Exit->Env->Hp->Prop):Exit->Env->Hp->Prop
 | .normal,ρ,h=>next ρ h
 | e,ρ,h=>Q e ρ h
def wq (id:Nat)(Q:Exit->Env->Hp->Prop):Exit->Env->Hp->Prop
 | .exit i,ρ,h=>match Nat.beq i id with
  | true=>Q .normal ρ h
  | false=>Q (.exit i) ρ h
 | e,ρ,h=>Q e ρ h
def Mo (Q:Exit->Env->Hp->Prop):Exit->Env->Hp->Prop
 | .goto _,_,_=>False
 | e,ρ,h=>Q e ρ h
def iF (P:Program)(N:Nat):Code->Hn->(Exit->Env->Hp->Prop)->Env->Hp->Prop
 | .skip,_,Q,ρ,h=>Q .normal ρ h
 | .ret,_,Q,ρ,h=>Q .ret ρ h
 | .exit id,_,Q,ρ,h=>Q (.exit id) ρ h
 | .region _ ops d,.cW r,Q,ρ,h=>mK P N r ops d ρ h λρ' h'=>Q .normal ρ' h'
 | .seq a b,.seq x y,Q,ρ,h=>iF P N a x (vp (λρ' h'=>iF P N b y Q ρ' h') Q) ρ h
 | .seq a b,.kj js x y,Q,ρ,h=>fQ (js.all λs=>my (fK a) s.1)
  (Jn (l9 js) (lam (l9 js) λvs h'=>iF P N b y Q (iy (ρ.dW (fK a)) js vs) h') λJ=>iF P N a x (vp (λρ' h'=>sD js ρ' J h') Q) ρ h)
 | .cond c a b,.cond x y,Q,ρ,h=>UF ρ c λt=>If t (iF P N a x Q ρ h) (iF P N b y Q ρ h)
 | .block id b,.block x,Q,ρ,h=>iF P N b x (wq id Q) ρ h
 | .scope b,.scope x,Q,ρ,h=>iF P N b x (Mo Q) ρ h
 | .label _,_,Q,ρ,h=>Q .normal ρ h
 | .loop b,.loop js x,Q,ρ,h=>fQ (js.all λs=>my (fK b) s.1)
  (Ya (l9 js) (λI=>sD js ρ I h) λJ=>lam (l9 js) λvs h'=>iF P N b x (vp (λρ' h''=>sD js ρ' J h'') Q) (iy (ρ.dW (fK b)) js vs) h')
 | _,_,_,_,_=>False
theorem Gz:∀{ks:List CK} {I:eL ks} {μ:oJ ks} {p:Nat->Prop} {vs:List Value} {h:Hp},Sat ks (GI ks I μ p) vs h->∃n,p n/\Sat ks (GI ks I μ (· = n)) vs h
 | [],I,μ,p,[],h,hs=>⟨μ h,hs.2,hs.1,rfl⟩
 | c::cs,I,μ,p,v::vs,h,⟨x,e,hs⟩=>by
  obtain⟨n,hp,hn⟩:=Gz (I:=I x) (μ:=μ x) hs;exact⟨n,hp,x,e,hn⟩
 | [],I,μ,p,_::_,h,hs=>hs.elim
 | _::_,I,μ,p,[],h,hs=>hs.elim
theorem Hh:∀{ks:List CK} {I:eL ks} (μ:oJ ks) {vs:List Value} {h:Hp},Sat ks I vs h->∃n,Sat ks (GI ks I μ (· = n)) vs h
 | [],I,μ,[],h,hs=>⟨μ h,hs,rfl⟩
 | c::cs,I,μ,v::vs,h,⟨x,e,hs⟩=>by
  obtain⟨n,hn⟩:=Hh (I:=I x) (μ x) hs;exact⟨n,x,e,hn⟩
 | [],I,μ,_::_,h,hs=>hs.elim
 | _::_,I,μ,[],h,hs=>hs.elim
theorem Ds {p:Nat->Prop}(h:∃n,p n):∃n,p n/\∀m,p m->n<=m:=by
 obtain⟨n,d⟩:=h
 induction n using Nat.strongRecOn with
 | _ n ih=>
  by_cases hm:∃m,m<n/\p m
  ·obtain⟨m,a,b⟩:=hm;exact ih m a b
  ·exact⟨n,d,λm b=>Nat.le_of_not_lt λa=>hm ⟨m,a,b⟩⟩
open Classical in
noncomputable def uC (p:Nat->Prop):Nat:=if h:∃n,p n then(Ds h).choose else 0
theorem IU {p:Nat->Prop}(h:∃n,p n):p (uC p):=by
 unfold uC;rw[dif_pos h];exact(Ds h).choose_spec.1
theorem D3 {p:Nat->Prop}{n:Nat}(h:p n):uC p<=n:=by
 unfold uC;rw[dif_pos ⟨n,h⟩];exact(Ds ⟨n,h⟩).choose_spec.2 n h
theorem Lz {P:Program}{c:Code}{Q:Exit->Act->World->Prop}{a:Act}{w:World}(I:Nat->Act->World->Prop)(h0:∃n,I n a w)
 (round:∀n a w,I n a w->c.wp P (Exit.then (λa' w'=>∃m,m<n/\I m a' w') Q) a w):(Code.loop c).wp P Q a w:=by
 refine wp_loop (λa w=>∃n,I n a w) (λa w=>uC λn=>I n a w) h0 λa w i=>?_;refine wp_mono (round _ a w (IU i)) λe a' w' d=>?_;cases e<;>try exact d
 obtain⟨m,g,b⟩:=d;exact⟨⟨m,b⟩,CO (D3 b) g⟩
theorem QL {P:Program}{N:Nat}:∀(c:Code) {x:Hn} {Q:Exit->Env->Hp->Prop} {Q':Exit->Act->World->Prop} {ρ:Env} {a:Act} {w:World},
 iF P N c x Q ρ w.heap->Fits N ρ a->(∀e ρ' a' w',Fits N ρ' a'->Xt w w'->Vo (fK c) ρ ρ'->Q e ρ' w'.heap->Q' e a' w')->c.wp P Q' a w
 | .skip,x,Q,Q',ρ,a,w,h,hf,hq=>by
  have h':Q .normal ρ w.heap:=by cases x<;>exact h
  exact wp_skip (hq _ ρ a w hf (.refl _) (.refl _ _) h')
 | .ret,x,Q,Q',ρ,a,w,h,hf,hq=>by
  have h':Q .ret ρ w.heap:=by cases x<;>exact h
  exact wp_ret (hq _ ρ a w hf (.refl _) (.refl _ _) h')
 | .exit id,x,Q,Q',ρ,a,w,h,hf,hq=>by
  have h':Q (.exit id) ρ w.heap:=by cases x<;>exact h
  exact wp_exit (hq _ ρ a w hf (.refl _) (.refl _ _) h')
 | .region id ops d,x,Q,Q',ρ,a,w,h,hf,hq=>by
  cases x<;>simp only[iF]at h
  exact EL h hf λρ' a' w' b p r j=>hq _ ρ' a' w' b p r j
 | .seq c1 c2,x,Q,Q',ρ,a,w,h,hf,hq=>by
  cases x<;>simp only[iF]at h
  case seq x y=>
   refine wp_seq (QL c1 h hf λe ρ' a' w' b p r j=>?_);cases e
   case normal=>exact QL c2 j b λe ρ'' A z g s D C=>hq e ρ'' A z g (p.trans s) (r.trans D) C
   all_goals exact hq _ ρ' a' w' b p (r.mono λi u=>kC _ u) j
  case kj js x y=>
   rw[WK]at h;obtain⟨E,J,W,h⟩:=h;refine wp_seq (QL c1 h hf λe ρ' a' w' b p r j=>?_);cases e
   case normal=>
    obtain⟨vs,M,H⟩:=Hg j;have F:=Uj (H.mono W);have K:=KB js (V7 b r) b M;refine QL c2 F K λe ρ'' A z g s D C=>hq e ρ'' A z g (p.trans s) ?_ C;have Y:=(UV (fK c1) ρ).trans (KR (fK c1) js (ρ.dW (fK c1)) vs E);exact(Y.trans D).mono λi u=>by
     simp only[fK,zK]at u ⊢;rcases u with(h|h)|h
     ·exact Or.inl h
     ·exact Or.inl h
     ·exact Or.inr h
   all_goals exact hq _ ρ' a' w' b p (r.mono λi u=>kC _ u) j
 | .cond c c1 c2,x,Q,Q',ρ,a,w,h,hf,hq=>by
  cases x<;>simp only[iF]at h
  obtain⟨t,ht,h⟩:=KQ h;refine wp_cond_split (hf.ev _ _ ht) (λe=>?_) (λe=>?_)
  ·exact QL c1 (h.t e) hf λe ρ' a' w' b p r j=>hq e ρ' a' w' b p (r.mono λi u=>kC _ u) j
  ·exact QL c2 (h.f e) hf λe ρ' a' w' b p r j=>hq e ρ' a' w' b p (r.mono λi u=>nZ _ u) j
 | .block id c1,x,Q,Q',ρ,a,w,h,hf,hq=>by
  cases x<;>simp only[iF]at h
  refine wp_block (QL c1 h hf λe ρ' a' w' b p r j=>?_);cases e
  case exit i=>
   simp only[wq]at j;simp only[Exit.inBlock];split at j
   ·rename_i e;have R:i=id:=jZ e;rw[zC R];exact hq _ ρ' a' w' b p r j
   ·rename_i e;have R:i≠id:=λh=>by subst h;simp at e
    rw[zB R];exact hq _ ρ' a' w' b p r j
  all_goals exact hq _ ρ' a' w' b p r j
 | .loop c1,x,Q,Q',ρ,a,w,h,hf,hq=>by
  cases x<;>simp only[iF]at h
  rename_i js x;rw[WK]at h;obtain⟨E,I,μ,H,V⟩:=h;refine Lz (λn a' w'=>∃vs,Fits N (iy (ρ.dW (fK c1)) js vs) a'/\Xt w w'/\Sat (l9 js) (GI (l9 js) I μ (· = n)) vs w'.heap) ?_ ?_
  ·obtain⟨vs,M,H⟩:=Hg H;obtain⟨n,S⟩:=Hh μ H;exact⟨n,vs,KB js (hf.weaken (xI _ _)) hf M,.refl _,S⟩
  ·rintro n a' w' ⟨vs,b,p,S⟩;have:=Uj (S.mono (V n));have X:=(UV (fK c1) ρ).trans (KR (fK c1) js (ρ.dW (fK c1)) vs E);refine QL c1 this b λe ρ'' A z g s r j=>?_;have B:Vo (fK c1) ρ ρ'':=(X.trans r).mono λi u=>by
    simp only[zK]at u;rcases u with(h|h)|h<;>exact h
   cases e
   case normal=>
    obtain⟨U,L,F⟩:=Hg j;obtain⟨m,Z,G⟩:=Gz F;exact⟨m,Z,U,KB js (V7 g B) g L,p.trans s,G⟩
   all_goals exact hq _ ρ'' A z g (p.trans s) B j
 | .scope c1,x,Q,Q',ρ,a,w,h,hf,hq=>by
  cases x<;>simp only[iF]at h
  refine wp_scope_straight (QL c1 h hf λe ρ' a' w' b p r j=>?_);cases e
  case goto l=>exact j.elim
  all_goals exact hq _ ρ' a' w' b p r j
 | .label l,x,Q,Q',ρ,a,w,h,hf,hq=>by
  have h':Q .normal ρ w.heap:=by cases x<;>exact h
  exact wp_label (hq _ ρ a w hf (.refl _) (.refl _ _) h')
 | .rangeFunc ..,x,Q,Q',ρ,a,w,h,hf,hq=>(by cases x<;>simp only[iF]at h)
 | .goto ..,x,Q,Q',ρ,a,w,h,hf,hq=>(by cases x<;>simp only[iF]at h)
 | .refuse ..,x,Q,Q',ρ,a,w,h,hf,hq=>(by cases x<;>simp only[iF]at h)
def pI (P:Program)(r:ResultVar)(s:SK)(ρ:Env)(h:Hp)(K:List Value->Prop):Prop:=
 match r,s with
 | .tmp t,.one _=>wv (ρ t) λv=>K [v]
 | .tmp t,.agg cs=>wv (ρ t) λv=>match v with
  | .agg a=>fQ (a.size==cs.length) (K a.toList)
  | _=>False
 | .cell a t,.one c=>wv (ρ a) λv=>match v,j0 P t with
  | .pointer (some ad),some (.one _)=>yQ c ad h λx=>K [c.v x]
  | _,_=>False
 | .cell a t,.agg cs=>wv (ρ a) λv=>match v,j0 P t with
  | .pointer (some ad),some (.agg _)=>fQ (P.cellsOf t==cs.length&&(P.info? t).isSome) (np cs ad 0 h λvs=>K vs)
  | _,_=>False
def lY (P:Program):List ResultVar->List SK->Env->Hp->(List Value->Prop)->Prop
 | [],[],_,_,K=>K []
 | r::rs,s::ss,ρ,h,K=>pI P r s ρ h λvs=>lY P rs ss ρ h λus=>K (vs++us)
 | _,_,_,_,_=>False
def oI (P:Program)(fn:Func)(rs:List SK)(R:eL (eU rs)):Exit->Env->Hp->Prop
 | .normal,ρ,h=>lY P fn.results.toList rs ρ h λvs=>sg (eU rs) R vs h
 | .ret,ρ,h=>lY P fn.results.toList rs ρ h λvs=>sg (eU rs) R vs h
 | _,_,_=>False
def GK (vs:List Value):Env:=λi=>vs[i]?
def I2 (P:Program)(fn:Func)(x:Hn)(args:List Value)(rs:List SK)(R:eL (eU rs))(h:Hp):Prop:=
 match fn.body with
 | some c=>fQ (Nat.ble args.length fn.ntmps) (iF P fn.ntmps c x (oI P fn rs R) (GK args) h)
 | none=>False
def He:SK->List Value->Value
 | .one _,[v]=>v
 | .one _,_=>undef
 | .agg _,vs=>.agg vs.toArray
def sO (tmps:Array Value):ResultVar->Sem Value
 | .tmp t=>pure (tmps.getD t undef)
 | .cell b t=>do loadVar t (←asAddr (tmps.getD b undef))
theorem RD (fn:Func)(tmps:Array Value):results fn tmps=(do
 let vs ←fn.results.mapM (sO tmps)
 pure (if h:vs.size=1 then vs[0]else .tuple vs)):=by
 unfold results
 congr 1
theorem Tn {P:Program}{r:ResultVar}{s:SK}{ρ:Env}{K:List Value->Prop}{a:Act}{N:Nat}{w:World}(hf:Fits N ρ a)(h:pI P r s ρ w.heap K) :
 ∃vs,vs.length=s.ks.length/\K vs/\(sO a.tmps r).run P w=.ok (He s vs) w:=by
 unfold pI at h;split at h
 ·rename_i t c;obtain⟨v,i,e⟩:=WE h;refine⟨[v],rfl,e,?_⟩;simp[sO,sr,hf.at_ _ _ i,He]
 ·rename_i t cs;obtain⟨v,i,e⟩:=WE h;split at e
  ·rename_i ar;rw[WK]at e;refine⟨ar.toList,by simpa[SK.ks]using e.1,e.2,?_⟩;simp[sO,sr,hf.at_ _ _ i,He]
  ·exact e.elim
 ·rename_i b t c;obtain⟨v,i,e⟩:=WE h;split at e
  ·rename_i ad c' hs;obtain⟨d,hd,g⟩:=EB hs;obtain⟨x,m,e⟩:=C8 e;refine⟨[c.v x],rfl,e,?_⟩;simp only[sO,sr,hf.at_ _ _ i,qk,asAddr,Sem.run_bind,Sem.run_pure,Result.andThen_ok,loadVar,Vh hd,g,He];simpa using By m
  ·exact e.elim
 ·rename_i b t cs;obtain⟨v,i,e⟩:=WE h;split at e
  ·rename_i ad cs' hs;rw[WK]at e;obtain⟨j,e⟩:=e;simp only[zE,zT]at j;obtain⟨d,hd,g⟩:=FA hs;obtain⟨vs,p,e,u⟩:=Ch (P:=P) e;refine⟨vs,p,e,?_⟩;simp only[sO,sr,hf.at_ _ _ i,qk,asAddr,Sem.run_bind,Sem.run_pure,Result.andThen_ok,loadVar,Vh hd,g,zR,Q2 j.2,loadCells,j.1,u,He];simp
  ·exact e.elim
theorem Ir {P:Program}{ρ:Env}{a:Act}{N:Nat}{w:World}(hf:Fits N ρ a):∀{rv:List ResultVar} {rs:List SK} {K:List Value->Prop},lY P rv rs ρ w.heap K →
 ∃vs,K vs/\(rv.mapM (sO a.tmps)).run P w=.ok (qj rs vs) w
 | [],[],K,h=>⟨[],h,by simp[qj]⟩
 | r::rv,s::rs,K,h=>by
  obtain⟨v1,hl,hK,hr⟩:=Tn hf h;obtain⟨e,b,d⟩:=Ir hf hK;refine⟨v1++e,b,?_⟩;simp only[List.mapM_cons,Sem.run_bind,hr,Result.andThen_ok,d,Sem.run_pure];cases s with
  | one c=>
   match v1,hl with
   | [v],_=>simp[qj,He]
  | agg cs=>
   simp only[SK.ks]at hl;simp only[qj,He,←hl,List.take_left,List.drop_left]
 | [],_::_,K,h=>h.elim
 | _::_,[],K,h=>h.elim
theorem VC {P:Program}{fn:Func}{ρ:Env}{a:Act}{N:Nat}{w:World}{rs:List SK}{K:List Value->Prop}(hf:Fits N ρ a)(h:lY P fn.results.toList rs ρ w.heap K) :
 ∃vs,K vs/\(results fn a.tmps).run P w=.ok (pack rs vs) w:=by
 obtain⟨vs,b,d⟩:=Ir hf h;refine⟨vs,b,?_⟩;rw[RD,Array.mapM_eq_mapM_toList];simp only[Sem.run_bind,Sem.run_map,d,Result.andThen_ok,Sem.run_pure,pack];split
 ·rename_i h1
  match hp:qj rs vs,h1 with
  | [v],_=>simp
 ·rename_i h1
  match hp:qj rs vs,h1 with
  | [],_=>rfl
  | [v],h1=>simp at h1
  | _::_::_,_=>rfl
theorem R0 {a b:Prop}(f:b)(e:a=b:=by kernel_rfl):a:=e.mpr f
theorem Wa {P:Program}{f:Nat}{fn:Func}{x:Hn}{args:List Value}{rs:List SK}{R:eL (eU rs)}{h:Hp}(hfn:P.funcs[f]?=some fn)(hk:I2 P fn x args rs R h):Wi P f args.toArray rs h R:=by
 intro w hw;subst hw;unfold I2 at hk;split at hk
 case h_2=>exact hk.elim
 rename_i c hb;rw[WK]at hk;obtain⟨p,hk⟩:=hk;have s:args.length<=fn.ntmps:=ym p;refine calls_of_wp hfn hb ?_;refine QL c hk (ρ:=GK args) ⟨rfl,by simp;omega,λi v b=>?_⟩ λe A y u a r z d=>?_
 ·simp only[GK]at b;have m:i<args.length:=(cZ.1 b).1;rw[xg (by simpa using m)];simpa using b
 ·cases e<;>simp only[oI]at d
  case normal=>
   obtain⟨vs,j,g⟩:=VC a d;exact⟨a.defers,_,g,r,vs,rfl,Ha j⟩
  case ret=>
   obtain⟨vs,j,g⟩:=VC a d;exact⟨a.defers,_,g,r,vs,rfl,Ha j⟩
theorem Ep {start:eL []->Prop}{round:eL []->eL []}(I:aP)(μ:Hp->Nat)(h0:start I)
 (hr:∀h,I h->round (λh'=>I h'/\μ h'<μ h) h):Ya [] start round:=
 ⟨I,μ,h0,λ_ h ⟨b,a⟩=>a▸hr h b⟩
theorem Qg {a:CK}{start:eL [a]->Prop}{round:eL [a]->eL [a]}(I:a.T->Hp->Prop)(μ:a.T->Hp->Nat)(h0:start I)
 (hr:∀x h,I x h->round (λx' h'=>I x' h'/\μ x' h'<μ x h) x h):Ya [a] start round:=
 ⟨I,μ,h0,λ_ x h ⟨d,b⟩=>b▸hr x h d⟩
theorem Us {a bb:CK}{start:eL [a,bb]->Prop}{round:eL [a,bb]->eL [a,bb]}(I:a.T->bb.T->Hp->Prop)(μ:a.T->bb.T->Hp->Nat)(h0:start I)
 (hr:∀x y h,I x y h->round (λx' y' h'=>I x' y' h'/\μ x' y' h'<μ x y h) x y h):Ya [a,bb] start round:=
 ⟨I,μ,h0,λ_ x y h ⟨d,b⟩=>b▸hr x y h d⟩
theorem aG {a:Addr}{K:Addr->Prop}(h:K a):bX (some a) K:=⟨a,rfl,h⟩
theorem nX {k:IntKind}{a:Addr}{h:Hp}{n:Int}{K:Int->Prop}(hc:cell h a=some (.int k n))(hK:K n):gJ k a h K:=⟨n,hc,hK⟩
theorem nv {a:Addr}{h:Hp}{n:Bool}{K:Bool->Prop}(hc:cell h a=some (.bool n))(hK:K n):l5 a h K:=⟨n,hc,hK⟩
theorem vd {a:Addr}{h:Hp}{n:Option Addr}{K:Option Addr->Prop}(hc:cell h a=some (.pointer n))(hK:K n):fS a h K:=⟨n,hc,hK⟩
theorem I9 {a:Addr}{h:Hp}{n:Option Nat}{K:Option Nat->Prop}(hc:cell h a=some (.map n))(hK:K n):lr a h K:=⟨n,hc,hK⟩
theorem nS {a:Addr}{h:Hp}{x:Option Addr}{n c:Nat}{K:Sl->Prop}(hc:cell h a=some (.slice x n c))(hK:K ⟨x,n,c⟩):ju a h K:=⟨⟨x,n,c⟩,hc,hK⟩
theorem Ub {e:Int}(h1 : -9223372036854775808<=e)(h2:e<=9223372036854775807):IntKind.i64.wrap e=e:=by
 unfold IntKind.wrap;simp[IntKind.bits,IntKind.signed];omega
theorem ar {e:Int}{K:Int->Prop}(h1 : -9223372036854775808<=e)(h2:e<=9223372036854775807)(hK:K e):Ar .i64 e K:=by
 unfold Ar;rw[Ub h1 h2];exact hK
theorem nz {y:Int}{A:Prop}(h:y≠0)(hA:A):Nz y A:=⟨h,hA⟩
theorem nn {y:Int}{A:Prop}(h:0<=y)(hA:A):Nn y A:=⟨h,hA⟩
theorem ix {a:Addr}{n:Nat}{i:Int}{sz:Nat}{K:Addr->Prop}(h0:0<=i)(h1:i<(n:Int))(hK:K (a.add (i.toNat*sz))):Ix (some a) n i sz K:=⟨a,rfl,h0,h1,hK⟩
theorem cU {b:Bool}{A B:Prop}(h1:b=true->A)(h2:b=false->B):If b A B:=If.mk h1 h2
theorem cQ {p:Prop}[Decidable p]{A B:Prop}(h1:p->A)(h2:¬p->B):If (decide p) A B:=
 If.mk (λh=>h1 (uE h)) (λh=>h2 (yv h))
theorem cD {b:Bool}{A B:Prop}(hb:b=true)(h:A):If b A B:=by subst hb;exact h
theorem cE {b:Bool}{A B:Prop}(hb:b=false)(h:B):If b A B:=by subst hb;exact h
theorem lV {p:Prop}[Decidable p]{A B:Prop}(hp:p)(h:A):If (decide p) A B:=cD (by simpa using hp) h
theorem fV {p:Prop}[Decidable p]{A B:Prop}(hp:¬p)(h:B):If (decide p) A B:=cE (by simpa using hp) h
theorem Bm (a:Int)(n:Nat):a.fdiv (2^n)=a/2^n:=Int.fdiv_eq_ediv_of_nonneg _ (Int.le_of_lt (Int.pow_pos aB))
theorem YK {a b:Int}(h:0<=a):a.tdiv b=a/b:=Int.tdiv_eq_ediv_of_nonneg h
theorem Kg {a b:Int}(h:0<=a):a.tmod b=a%b:=Int.tmod_eq_emod_of_nonneg h
def bZ (h:Hp)(b:Nat)(cs:List Value):Prop:=∃e,h[b]?=some (.cells cs.toArray e (0,0))
theorem bZ.lt {h:Hp}{b:Nat}{cs:List Value}(hb:bZ h b cs):b<h.size:=by
 obtain⟨e,a⟩:=hb;exact(jP.1 a).1
theorem bZ.cell {h:Hp}{b o:Nat}{cs:List Value}(hb:bZ h b cs):cell h ⟨b,o,none⟩=cs[o]? := by
 obtain⟨e,a⟩:=hb;simp[Vc.cell,a]
theorem bZ.od {h:Hp}{b o:Nat}{cs:List Value}(hb:bZ h b cs):od h ⟨b,o,none⟩=false:=by
 obtain⟨e,a⟩:=hb;simp[Vc.od,a]
theorem bZ.set {h:Hp}{b o:Nat}{cs:List Value}(hb:bZ h b cs)(v:Value):bZ (jX h ⟨b,o,none⟩ v) b (cs.set o v):=by
 obtain⟨e,a⟩:=hb;refine⟨e,?_⟩;simp[jX,xW,a]
theorem V6 {h:Hp}{a:Addr}{v:Value}{b:Nat}(hne:b≠a.block):(jX h a v)[b]?=h[b]? := by
 simp only[jX,xW];rw[zB (Ne.symm hne)]
theorem add_lit (b o n:Nat):Addr.add ⟨b,o,none⟩ n=⟨b,o+n,none⟩:=Addr.add_lit b o n
def mO (h:Hp)(b:Nat)(cs:List Value):Prop:=∃e z,h[b]?=some (.cells cs.toArray e z)
theorem bZ.q {h:Hp}{b:Nat}{cs:List Value}(hb:bZ h b cs):mO h b cs:=by
 obtain⟨e,a⟩:=hb;exact⟨e,_,a⟩
theorem mO.lt {h:Hp}{b:Nat}{cs:List Value}(hb:mO h b cs):b<h.size:=by
 obtain⟨e,z,a⟩:=hb;exact(jP.1 a).1
theorem mO.cell {h:Hp}{b o:Nat}{cs:List Value}(hb:mO h b cs):cell h ⟨b,o,none⟩=cs[o]? := by
 obtain⟨e,z,a⟩:=hb;simp[Vc.cell,a]
def Ext (F:Nat->Prop)(h h':Hp):Prop:=h.size<=h'.size/\∀b,b<h.size->¬F b->h'[b]?=h[b]?
def bL (h h':Hp):Prop:=Ext (λ_=>False) h h'
theorem Ext.refl (F:Nat->Prop)(h:Hp):Ext F h h:=⟨zD _,λ_ _ _=>rfl⟩
theorem Ext.trans {F:Nat->Prop}{a b c:Hp}(h:Ext F a b)(k:Ext F b c):Ext F a c:=
 ⟨j9 h.1 k.1,λi e d=>(k.2 i (uu e h.1) d).trans (h.2 i e d)⟩
theorem Ext.mono {F G:Nat->Prop}{a b:Hp}(h:Ext F a b)(hs:∀i,i<a.size->F i->G i):Ext G a b:=
 ⟨h.1,λi d g=>h.2 i d λe=>g (hs i d e)⟩
theorem bL.to {F:Nat->Prop}{a b:Hp}(h:bL a b):Ext F a b:=Ext.mono h λ_ _ h=>h.elim
theorem Ext.fT {F:Nat->Prop}{a b c:Hp}(h:Ext F a b)(k:bL b c):Ext F a c:=h.trans k.to
theorem Ext.size {F:Nat->Prop}{a b:Hp}(h:Ext F a b):a.size<=b.size:=h.1
theorem Ext.push (F:Nat->Prop)(h:Hp)(o:Obj):Ext F h (h.push o):=
 ⟨by simp,λb a _=>by rw[vN,zB (xC a)]⟩
theorem Ext.eM {F:Nat->Prop}{h h':Hp}{r:Nat}(ho:QR h h' r)(hr:F r):Ext F h h':=
 ⟨Nat.le_of_eq ho.1.symm,λb _ a=>ho.2 b λe=>a (e▸hr)⟩
theorem Ext.jX {F:Nat->Prop}{h:Hp}{a:Addr}{v:Value}(hr:F a.block):Ext F h (jX h a v):=
 ⟨Nat.le_of_eq (Vw h a v).symm,λb _ d=>V6 λe=>d (e▸hr)⟩
theorem Ext.at_ {F:Nat->Prop}{h h':Hp}(e:Ext F h h'){b:Nat}{o:Obj}(hb:h[b]?=some o)(hf:¬F b):h'[b]?=some o:=by
 rw[e.2 b (jP.1 hb).1 hf];exact hb
theorem Ext.bW {F:Nat->Prop}{h h':Hp}(e:Ext F h h'){b:Nat}{cs:List Value}(hb:bZ h b cs)(hf:¬F b):bZ h' b cs:=by
 obtain⟨t,a⟩:=hb;exact⟨t,e.at_ a hf⟩
theorem Ext.fR {F:Nat->Prop}{h h':Hp}(e:Ext F h h'){r:Nat}{k:IntKind}{c:CK}{l:List (Int×c.T)}(hb:dJ h r k c l)(hf:¬F r):dJ h' r k c l:=by
 obtain⟨d,b,g,a⟩:=hb;exact⟨d,b,e.at_ g hf,a⟩
theorem dJ.lt {h:Hp}{r:Nat}{k:IntKind}{c:CK}{l:List (Int×c.T)}(hb:dJ h r k c l):r<h.size:=by
 obtain⟨d,a,b,_⟩:=hb;exact(jP.1 b).1
theorem dJ.nodup {h:Hp}{r:Nat}{k:IntKind}{c:CK}{l:List (Int×c.T)}(hb:dJ h r k c l):(l.map (·.1)).Nodup:=by
 obtain⟨d,a,e,_,b,_⟩:=hb;exact b
theorem WH {h h':Hp}{r b:Nat}{cs:List Value}(ho:QR h h' r)(hb:bZ h b cs)(hne:b≠r):bZ h' b cs:=by
 obtain⟨t,a⟩:=hb;exact⟨t,by rw[ho.2 b hne];exact a⟩
theorem HB {h h':Hp}{r b:Nat}{k:IntKind}{c:CK}{l:List (Int×c.T)}(ho:QR h h' r)(hb:dJ h b k c l)(hne:b≠r):dJ h' b k c l:=by
 obtain⟨e,d,g,a⟩:=hb;exact⟨e,d,by rw[ho.2 b hne];exact g,a⟩
end Go.Vc
namespace Go.Bu
open Go Go.Vc
theorem TJ {a b:Nat}(ha:a<9223372036854775808)(hb:b<9223372036854775808):bits .xor .i64 (a:Int) (b:Int)=((a ^^^ b:Nat):Int):=by
 have g:a ^^^ b<2^63:=Nat.xor_lt_two_pow O O;have d:(BitVec.ofInt 64 (a:Int)).toNat=a:=by
  rw[BitVec.ofInt_natCast,BitVec.toNat_ofNat];exact vv O
 have e:(BitVec.ofInt 64 (b:Int)).toNat=b:=by
  rw[BitVec.ofInt_natCast,BitVec.toNat_ofNat];exact vv O
 show IntKind.i64.wrap ((BitVec.ofInt 64 (a:Int) ^^^ BitVec.ofInt 64 (b:Int)).toNat:Int)=_;rw[BitVec.toNat_xor,d,e,Ub]<;>omega
theorem iX {a b:Nat}(ha:a<9223372036854775808)(hb:b<9223372036854775808):bits .and .i64 (a:Int) (b:Int)=((a &&& b:Nat):Int):=by
 have g:a &&& b<2^63:=Nat.and_lt_two_pow _ O;have d:(BitVec.ofInt 64 (a:Int)).toNat=a:=by
  rw[BitVec.ofInt_natCast,BitVec.toNat_ofNat];exact vv O
 have e:(BitVec.ofInt 64 (b:Int)).toNat=b:=by
  rw[BitVec.ofInt_natCast,BitVec.toNat_ofNat];exact vv O
 show IntKind.i64.wrap ((BitVec.ofInt 64 (a:Int) &&& BitVec.ofInt 64 (b:Int)).toNat:Int)=_;rw[BitVec.toNat_and,d,e,Ub]<;>omega
theorem Mm (q:Nat):q ^^^ 1=ic q:=by
 apply Nat.eq_of_testBit_eq;intro i;rw[Nat.testBit_xor];unfold ic;cases i with
 | zero=>
  simp only[Nat.testBit_zero];split<;>rename_i h
  ·have:(q+1)%2=1:=by omega
   simp[h,this]
  ·have a:q%2=1:=by omega
   have:(q-1)%2=0:=by omega
   simp[a,this]
 | succ i=>
  simp only[Nat.testBit_succ];have b:(1:Nat)/2=0:=by decide
  rw[b,Nat.zero_testBit,Bool.xor_false]
  congr 1
  split<;>omega
theorem TZ (q k:Nat):(q*2^k) ^^^ (2^k)=ic q*2^k:=by
 have h:=Nat.shiftLeft_xor_distrib (a:=q) (b:=1) (i:=k);rw[Mm,Nat.shiftLeft_eq,Nat.shiftLeft_eq,Nat.shiftLeft_eq,Nat.one_mul]at h;exact h.symm
theorem I4 {k:Nat}(h:k<=62):2^k<=4611686018427387904:=oL (n:=2) aB h
def Keys (S:Nat->Bool)(k:Nat)(B:List (Int×Bool)):Prop:=
 (∀x v,(x,v)∈B->v=true/\∃q:Nat,x=((q*2^k:Nat):Int)/\can S k q=true)/\∀q,can S k q=true->(((q*2^k:Nat):Int),true)∈B
structure BH (U:Hp) (p n:Nat) (S:Nat->Bool) (sb:Nat) (ms:List Nat):Prop where
 hd:∃cap,bZ U p [.int .i64 n,.slice (some ⟨sb,0,none⟩) ms.length cap]
 row:∃rest,bZ U sb (ms.map (λm=>Value.map (some m))++rest)
 maps:∀k m,ms[k]?=some m->∃B:List (Int×Bool),dJ U m .i64 .b B/\Keys S k B
 nd:(p::sb::ms).Nodup
 n1:1<=n
 n2:n<=1024
 lo:2^ms.length<=2*n
 hi:n<2^ms.length
 jr:Bounded S n
def fp (p sb:Nat)(ms:List Nat)(b:Nat):Prop:=b∈p::sb::ms
variable {U h':Hp}{p n sb:Nat}{S:Nat->Bool}{ms:List Nat}
theorem BH.len (h:BH U p n S sb ms):ms.length<=11:=by
 have:=h.lo;have:=h.n2;apply Classical.byContradiction;intro hc;have:2^12<=2^ms.length:=oL aB O;omega
theorem BH.fits (h:BH U p n S sb ms){k q:Nat}(hf:q*2^k+2^k<=n):k<ms.length:=by
 apply Classical.byContradiction;intro hc;have:2^ms.length<=2^k:=oL aB O;have:=h.hi;omega
theorem BH.M3 (h:BH U p n S sb ms):cell U ⟨p,0,none⟩=some (.int .i64 n):=by
 obtain⟨cap,a⟩:=h.hd;rw[a.cell];rfl
theorem BH.nv (h:BH U p n S sb ms):∃cap,cell U ⟨p,1,none⟩=some (.slice (some ⟨sb,0,none⟩) ms.length cap):=by
 obtain⟨cap,a⟩:=h.hd;exact⟨cap,by rw[a.cell];rfl⟩
theorem BH.Tb (h:BH U p n S sb ms){k m:Nat}(hm:ms[k]?=some m):cell U ⟨sb,k,none⟩=some (.map (some m)):=by
 obtain⟨a,b⟩:=h.row;rw[b.cell,zd (by simpa using(cZ.1 hm).1),za,hm];rfl
theorem BH.get (h:BH U p n S sb ms){k:Nat}(hk:k<ms.length):∃m,ms[k]?=some m:=⟨ms[k],by simp[hk]⟩
theorem BH.bT (h:BH U p n S sb ms){F:Nat->Prop}(e:Ext F U h')(hF:∀b,fp p sb ms b->¬F b):BH h' p n S sb ms where
 hd:=by obtain⟨cap,d⟩:=h.hd;exact⟨cap,e.bW d (hF _ (by simp[fp]))⟩
 row:=by obtain⟨a,d⟩:=h.row;exact⟨a,e.bW d (hF _ (by simp[fp]))⟩
 maps:=λk m g=>by
  obtain⟨B,i,j⟩:=h.maps k m g;exact⟨B,e.fR i (hF _ (by simp[fp,zG g])),j⟩
 nd:=h.nd
 n1:=h.n1
 n2:=h.n2
 lo:=h.lo
 hi:=h.hi
 jr:=h.jr
theorem BH.bP (h:BH U p n S sb ms)(e:bL U h'):BH h' p n S sb ms:=h.bT e λ_ _=>id
theorem LS {k:Nat}{B:List (Int×Bool)}(hK:Keys S k B)(hn:(B.map (·.1)).Nodup)(q:Nat):bU B ((q*2^k:Nat):Int)=if can S k q then some true else none:=by
 unfold bU;cases hf:B.find? λx=>x.1==((q*2^k:Nat):Int)with
 | some x=>
  have p:=tK hf;have a:=s7 hf;obtain⟨e,i⟩:=x;obtain⟨j,m,g,b⟩:=hK.1 e i a;have d:e=((q*2^k:Nat):Int):=by simpa using p
  rw[d]at g;have:q*2^k=m*2^k:=by exact_mod_cast g
  have:=xq (kL k) this;subst this;subst j;simp[b]
 | none=>
  rw[nY]at hf;by_cases b:can S k q=true
  ·have:=hf _ (hK.2 q b);simp at this
  ·simp[b]
theorem BH.lk (h:BH U p n S sb ms){k m q:Nat}(hm:ms[k]?=some m){x:Int}(hx:x=((q*2^k:Nat):Int)){K:Option Bool->Prop}
 (hK:K (if can S k q then some true else none)):Lk .i64 .b (some m) x U K:=by
 obtain⟨B,a,d⟩:=h.maps k m hm;exact⟨B,a,by rw[hx,LS d a.nodup];exact hK⟩
theorem IA {k:Nat}{B:List (Int×Bool)}(hK:Keys S k B)(hn:(B.map (·.1)).Nodup)(hb:Bounded S n):B.length=many n S k:=by
 have j:(B.map (·.1)).Perm (((List.range n).filter (can S k)).map λq=>((q*2^k:Nat):Int)):=by
  rw[CB hn]
  ·intro x;simp only[zF,zI,zh];constructor
   ·rintro⟨⟨x1,x2⟩,hm,rfl⟩;obtain⟨_,q,m,d⟩:=hK.1 x1 x2 hm;refine⟨q,⟨?_,d⟩,m.symm⟩;have:=ZZ hb (ZP.1 d).1;have p:=kL k;have r:q<=q*2^k:=Nat.le_mul_of_pos_right _ p;omega
   ·rintro⟨q,⟨_,d⟩,rfl⟩;exact⟨_,hK.2 q d,rfl⟩
  ·have e:((List.range n).filter (can S k)).Pairwise (· ≠ ·):=List.Pairwise.sublist tf List.nodup_range;refine List.Pairwise.map _ (λa b (i:a≠b) g=>i ?_) e;have:a*2^k=b*2^k:=by exact_mod_cast g
   exact xq (kL k) this
 have:=j.length_eq;simp only[zk]at this;rw[this,many,yR]
theorem BH.lh (h:BH U p n S sb ms){k m:Nat}(hm:ms[k]?=some m){K:Int->Prop}(hK:K ((many n S k:Nat):Int)):ru .i64 .b (some m) U K:=by
 obtain⟨B,a,d⟩:=h.maps k m hm;exact⟨B,a,by rw[IA d a.nodup h.jr];exact hK⟩
theorem BH.oF (h:BH U p n S sb ms){k m:Nat}{T:Nat->Bool}(hm:ms[k]?=some m)(ho:QR U h' m){B':List (Int×Bool)}(hB':dJ h' m .i64 .b B')(hK':Keys T k B')
 (hoth:∀j q,j≠k->can T j q=can S j q) (hT:Bounded T n):BH h' p n T sb ms where
 hd:=by
  obtain⟨cap,r⟩:=h.hd;refine⟨cap,WH ho r ?_⟩;have:=h.nd;simp only[zt,zX,not_or]at this;rintro rfl;exact this.1.2 (zG hm)
 row:=by
  obtain⟨i,r⟩:=h.row;refine⟨i,WH ho r ?_⟩;have:=h.nd;simp only[zt,zX,not_or]at this;rintro rfl;exact this.2.1 (zG hm)
 maps:=λj C a=>by
  by_cases e:j=k
  ·subst e;rw[hm]at a;cases a;exact⟨B',hB',hK'⟩
  ·obtain⟨B,A,d⟩:=h.maps j C a;refine⟨B,HB ho A ?_,?_⟩
   ·rintro rfl;have g:=h.nd;simp only[zt]at g;exact e ((List.getElem?_inj (cZ.1 a).1 g.2.2).1 (a.trans hm.symm))
   ·refine⟨λx v y=>?_,λq z=>d.2 q (by rw[←hoth j q e];exact z)⟩;obtain⟨w,q,s,u⟩:=d.1 x v y;exact⟨w,q,s,by rw[hoth j q e];exact u⟩
 nd:=h.nd
 n1:=h.n1
 n2:=h.n2
 lo:=h.lo
 hi:=h.hi
 jr:=hT
theorem Tq (hb:Bounded S n)(k q:Nat):Bounded (del S k q) n:=λx a=>hb x (VR.1 a).1
theorem FR (hb:Bounded S n){k q:Nat}(hf:q*2^k+2^k<=n):Bounded (ins S k q) n:=λx a=>by
 rcases VX.1 a with h|h
 ·exact hb x h
 ·have:=Qp.1 h;omega
theorem E6 {a b:Bool}(h:a=true↔b=true):a=b:=by cases a<;>cases b<;>simp_all
theorem BH.sq (h:BH U p n S sb ms){k m q:Nat}(hm:ms[k]?=some m)(hc:can S k q=true){x:Int}(hx:x=((q*2^k:Nat):Int)){K:aP}
 (hK:∀h',Ext (· ∈ ms) U h'->BH h' p n (del S k q) sb ms->K h'):lG .i64 .b (some m) x U K:=by
 obtain⟨B,C,u⟩:=h.maps k m hm;refine⟨B,C,λh' w _ i=>hK h' (Ext.eM (w m rfl) (zG hm)) ?_⟩;refine h.oF hm (w m rfl) i ⟨λy v g=>?_,λr A=>?_⟩ (λj r D=>E6 ?_) (Tq h.jr k q)
 ·simp only[cT,zI,mM,mB]at g;obtain⟨z,r,a,s⟩:=u.1 y v g.1;refine⟨z,r,a,(BR hc).2 ⟨s,λe=>g.2 ?_⟩⟩;rw[a,hx,e.2]
 ·have d:=(BR hc).1 A;simp only[cT,zI,mM,mB];refine⟨u.2 r d.1,λe=>d.2 ⟨rfl,?_⟩⟩;rw[hx]at e;have:r*2^k=q*2^k:=by exact_mod_cast e
  exact xq (kL k) this
 ·rw[BR hc];exact⟨λh=>h.1,λh=>⟨h,λe=>D e.1⟩⟩
theorem BH.xm (h:BH U p n S sb ms){k m q:Nat}(hm:ms[k]?=some m)(hd:∀y,y/2^k=q->S y=false)(hup:¬full (ins S k q) (k+1) (q/2)=true)(hf:q*2^k+2^k<=n)
 {x:Int} (hx:x=((q*2^k:Nat):Int)) {K:aP} (hK:∀h',Ext (· ∈ ms) U h'->BH h' p n (ins S k q) sb ms->K h'):kH .i64 .b (some m) x true U K:=by
 obtain⟨B,E,w⟩:=h.maps k m hm;refine⟨m,B,rfl,E,λh' A z=>hK h' (Ext.eM A (zG hm)) ?_⟩;have s:∀y∈B,(y.1==x)=false:=by
  rintro⟨y,v⟩ d;obtain⟨_,r,a,g⟩:=w.1 y v d;simp only[mB];rintro rfl;rw[hx]at a;have:q*2^k=r*2^k:=by exact_mod_cast a
  have:=xq (kL k) this;subst this;have u:=Ua g (Vd k q);rw[hd _ (Vd k q)]at u;cases u
 have i:dB B x true=B++[(x,true)]:=by
  unfold dB;rw[zB];simp only[qT,mc];intro y d;simp[s y d]
 refine h.oF hm A z ?_ (λj r F=>E6 ?_) (FR h.jr hf)
 ·rw[i];refine⟨λy v d=>?_,λr D=>?_⟩
  ·simp only[zK,zP,Prod.mk.injEq]at d;rcases d with d|⟨rfl,rfl⟩
   ·obtain⟨C,r,a,g⟩:=w.1 y v d;exact⟨C,r,a,(Am hd hup).2 (.inl g)⟩
   ·exact⟨rfl,q,hx,(Am hd hup).2 (.inr ⟨rfl,rfl⟩)⟩
  ·rcases(Am hd hup).1 D with u|⟨_,rfl⟩
   ·exact kC _ (w.2 r u)
   ·rw[hx];exact nZ _ aA
 ·rw[Am hd hup];exact⟨λh=>h.elim id λe=>(F e.1).elim,.inl⟩
end Go.Bu
namespace Go.Vc
open Go
theorem VU {b o:Nat}:∀{vs:List Value} {h:Hp} {cs:List Value} {i:Nat} {K:aP},bZ h b cs->o+i+vs.length<=cs.length →
 (∀h',QR h h' b->bZ h' b (cs.take (o+i)++vs++cs.drop (o+i+vs.length))->K h')->qc ⟨b,o,none⟩ h vs i K
 | [],h,cs,i,K,hb,hl,hK=>hK h ⟨rfl,λ_ _=>rfl⟩ (by simpa using hb)
 | v::vs,h,cs,i,K,hb,hl,hK=>by
  simp only[zV]at hl;refine⟨?_,?_,?_⟩
  ·rw[add_lit,hb.cell,cX O];rfl
  ·rw[add_lit];exact hb.od
  ·rw[add_lit];have hb':=hb.set (o:=o+i) v;refine VU hb' aE λh' g a=>hK h' ?_ ?_
   ·exact⟨g.1.trans (Vw _ _ _),λc d=>(g.2 c d).trans (V6 d)⟩
   ·have e:(cs.set (o+i) v).take (o+(i+1))++vs++(cs.set (o+i) v).drop (o+(i+1)+vs.length)=cs.take (o+i)++v::vs++cs.drop (o+i+(v::vs).length):=by
     rw[List.drop_set_of_lt O,show o+(i+1)=(o+i)+1 by omega,ko,List.take_set_of_le O,zN O];simp only[r9,zr,List.singleton_append,lp,sH,zV]
     congr 4
     omega
    rw[e]at a;exact a
def Own (Q:Nat->Prop)(h:Hp)(s:Sl)(sz:Nat)(xs:List Value):Prop:=
 xs.length=s.len*sz/\(s.a=none/\s.len=0/\s.cap=0\/∃b cs,Q b/\s.a=some ⟨b,0,none⟩/\bZ h b cs/\s.len<=s.cap/\cs.length=s.cap*sz/\cs.take xs.length=xs)
def Hu (s:Sl)(b:Nat):Prop:=∃o,s.a=some ⟨b,o,none⟩
theorem Own.nil (Q:Nat->Prop)(h:Hp)(sz:Nat):Own Q h ⟨none,0,0⟩ sz []:=⟨by simp,.inl ⟨rfl,rfl,rfl⟩⟩
theorem Own.bT {Q F:Nat->Prop}{h h':Hp}{s:Sl}{sz:Nat}{xs:List Value}(ho:Own Q h s sz xs)(e:Ext F h h')(hF:∀b,Q b->b<h.size->¬F b):Own Q h' s sz xs:=by
 refine⟨ho.1,ho.2.imp id ?_⟩;rintro⟨b,cs,hq,ha,hb,r⟩;exact⟨b,cs,hq,ha,e.bW hb (hF b hq hb.lt),r⟩
theorem Own.bP {Q:Nat->Prop}{h h':Hp}{s:Sl}{sz:Nat}{xs:List Value}(ho:Own Q h s sz xs)(e:bL h h'):Own Q h' s sz xs:=ho.bT e λ_ _ _ h=>h
theorem Own.mono {Q Q':Nat->Prop}{h:Hp}{s:Sl}{sz:Nat}{xs:List Value}(ho:Own Q h s sz xs)(hq:∀b,b<h.size->Q b->Q' b):Own Q' h s sz xs:=by
 refine⟨ho.1,ho.2.imp id ?_⟩;rintro⟨b,cs,hQ,ha,hb,r⟩;exact⟨b,cs,hq b hb.lt hQ,ha,hb,r⟩
theorem Own.ji {Q:Nat->Prop}{h:Hp}{s:Sl}{sz:Nat}{xs:List Value}(ho:Own Q h s sz xs){b:Nat}(hb:Hu s b):Q b/\b<h.size:=by
 obtain⟨o,a⟩:=hb;rcases ho.2 with⟨ha,_⟩|⟨b',cs,hq,ha,hk,_⟩
 ·rw[ha]at a;cases a
 ·rw[ha]at a;cases a;exact⟨hq,hk.lt⟩
theorem Own.rd {Q:Nat->Prop}{h:Hp}{s:Sl}{sz:Nat}{xs:List Value}(ho:Own Q h s sz xs):Rd h s.a xs:=by
 rcases ho.2 with⟨ha,hl,_⟩|⟨b,cs,_,ha,hb,_,_,ht⟩
 ·rw[ha];have:=ho.1;rw[hl]at this;simp at this;exact this
 ·rw[ha];intro j v hv;rw[add_lit,hb.cell,zH];rw[←ht,zj]at hv;split at hv
  ·exact hv
  ·cases hv
theorem Own.cell {Q:Nat->Prop}{h:Hp}{s:Sl}{sz:Nat}{xs:List Value}(ho:Own Q h s sz xs){j:Nat}{v:Value}(hv:xs[j]?=some v):∃b,s.a=some ⟨b,0,none⟩/\Vc.cell h ⟨b,j,none⟩=some v:=by
 rcases ho.2 with⟨ha,hl,_⟩|⟨b,cs,_,ha,hb,_,_,ht⟩
 ·have:=ho.1;rw[hl]at this;simp at this;subst this;simp at hv
 ·refine⟨b,ha,?_⟩;rw[hb.cell];rw[←ht,zj]at hv;split at hv
  ·exact hv
  ·cases hv
theorem Own.app {Q:Nat->Prop}{h:Hp}{s x:Sl}{sz bytes e:Nat}{zs xs ys:List Value}{K:Sl->Hp->Prop}(ho:Own Q h s sz xs)(hq:∀b,h.size<=b->Q b)(hz:zs.length=sz)
 (hy:ys.length=x.len*sz) (hr:Rd h x.a ys) (h1:∀v∈ys,dR v=true) (hb:(s.len+x.len)*bytes<=2^46) (hc:s.len+x.len<=2^62)
 (hx:0<x.len) (hK:∀s' h',s'.len=s.len+x.len->Ext (Hu s) h h'->Own Q h' s' sz (xs++ys)->s'.a≠none->K s' h'):App s sz bytes e zs x h K:=by
 refine⟨xs,ys,ho.1,hy,ho.rd,hr,h1,hb,hc,λg=>?_,λp c j=>?_⟩
 ·rcases ho.2 with⟨ha,hl,hcap⟩|⟨b,cs,hQ,ha,hk,hle,hcl,ht⟩
  ·omega
  ·rw[ha];simp only;rw[add_lit];have r:(s.len+x.len)*sz<=s.cap*sz:=ma _ g;rw[zl]at r;have d:=ho.1;refine VU hk O λh' m i=>hK _ h' rfl (Ext.eM m ⟨0,ha⟩) ⟨?_,.inr ⟨b,_,hQ,rfl,i,g,?_,?_⟩⟩ aA
   ·simp[d,hy,zl]
   ·simp;omega
   ·rw[zM,d];rw[zH,kc,←d];rw[ht,pJ aA,lz aA]
 ·refine hK _ _ rfl (Ext.push _ _ _) ⟨by simp[ho.1,hy,zl],.inr ⟨h.size,xs++ys++(List.replicate (c-(s.len+x.len)) zs).flatten,hq _ (zD _),rfl,⟨e,by simp⟩,j,?_,?_⟩⟩ aA
  ·simp only[zM,xe,vB,xE,ho.1,hy,hz,←zl]
   congr 1;omega
  ·rw[pJ aA,lz aA]
theorem ψ {h:Hp}{v:Value}{e:Nat}:Rd (h.push (.cells #[v] e (0,0))) (some ⟨h.size,0,none⟩) [v]:=by
 intro j u hu;rw[add_lit];cases j with
 | zero=>simp at hu;subst hu;simp[Vc.cell]
 | succ j=>simp at hu
theorem bZ.Le {h:Hp}{b o:Nat}{cs:List Value}(hb:bZ h b cs){v:Value}(ho:o<cs.length){K:aP}(hK:∀h',QR h h' b->bZ h' b (cs.set o v)->K h'):dU (Addr.add ⟨b,0,none⟩ o) v h K:=by
 rw[add_lit,zH];refine⟨?_,hb.od,hK _ ⟨Vw _ _ _,λc a=>V6 a⟩ (hb.set v)⟩;rw[hb.cell,cX ho];rfl
theorem bZ.push (h:Hp)(cs:List Value)(e:Nat):bZ (h.push (.cells cs.toArray e (0,0))) h.size cs:=⟨e,by simp⟩
theorem dJ.push (h:Hp)(k:IntKind)(c:CK):dJ (h.push (.map #[] 0)) h.size k c []:=⟨#[],0,by simp,by simp,by simp,by simp,by simp⟩
theorem Ext.only {F:Nat->Prop}{a b c:Hp}{r:Nat}(e:Ext F a b)(ho:QR b c r)(hr:F r\/a.size<=r):Ext F a c:=
 ⟨by rw[ho.1];exact e.1,λi g d=>by
  rw[ho.2 i ?_];exact e.2 i g d;rintro rfl;rcases hr with h|h
  ·exact d h
  ·omega⟩
theorem Ext.fresh {a b c:Hp}{F:Nat->Prop}(e:bL a b)(k:Ext F b c)(hF:∀i,F i->a.size<=i):bL a c:=
 ⟨j9 e.1 k.1,λi d _=>(k.2 i (uu d e.1) λg=>by have:=hF i g;omega).trans (e.2 i d id)⟩
theorem Own.st {Q:Nat->Prop}{h:Hp}{s:Sl}{sz:Nat}{xs:List Value}(ho:Own Q h s sz xs){j:Nat}(hj:j<xs.length){v:Value}{K:aP}{a:Addr}(ha:∀b,s.a=some ⟨b,0,none⟩->a=⟨b,j,none⟩)
 (hK:∀h',Ext (Hu s) h h'->Own Q h' s sz (xs.set j v)->K h'):dU a v h K:=by
 rcases ho.2 with⟨h1,hl,_⟩|⟨b,cs,hq,hsa,hb,hle,hcl,ht⟩
 ·have:=ho.1;rw[hl]at this;simp at this;subst this;simp at hj
 ·rw[ha b hsa];have d:j<cs.length:=by
   have:(cs.take xs.length).length=xs.length:=by rw[ht]
   rw[zY]at this;omega
  refine⟨by rw[hb.cell,cX d];rfl,hb.od,hK _ (Ext.jX (F:=Hu s) ⟨0,hsa⟩) ⟨by simp[ho.1],.inr ⟨b,_,hq,hsa,hb.set v,hle,by simp[hcl],?_⟩⟩⟩;rw[oZ,List.take_set,ht]
end Go.Vc