/- Texts joined. -/
import Init
import Derived.WalkKit
import Derived.WalkLawsBesides
import Derived.WalkSpells
import Derived.ChangeKeysEq
import Derived.StillTail
import Derived.OrdersHeld
import Derived.Scope
set_option linter.unusedVariables false
set_option linter.unusedSimpArgs false
abbrev zB:=@if_neg
abbrev zC:=@if_pos
abbrev zD:=@Nat.le_refl
abbrev zE:=@List.mem_map
abbrev zF:=@Bool.and_eq_true
abbrev zG:=@List.mem_of_getElem?
abbrev zH:=@Nat.zero_add
abbrev zI:=@List.mem_filter
abbrev zJ:=@decide_eq_true
abbrev zK:=@List.mem_append
abbrev zL:=@List.getElem?_set_self
abbrev zM:=@decide_eq_false
abbrev zN:=@List.mem_singleton
abbrev zO:=@List.length_append
abbrev zP:=@List.getD_eq_getElem?_getD
abbrev zQ:=@List.getElem?_of_mem
abbrev zR:=@if_true
abbrev zS:=@List.map_cons
abbrev zT:=@beq_iff_eq
abbrev zU:=@decide_eq_true_eq
abbrev zV:=@List.getElem?_eq_none
abbrev zW:=@List.mem_cons
abbrev zX:=@Option.map_some
abbrev zY:=@List.length_cons
abbrev zZ:=@List.length_take
abbrev za:=@Int.eq_ofNat_of_zero_le
abbrev zc:=@Bool.false_eq_true
abbrev zd:=@List.getElem?_map
abbrev ze:=@List.getElem?_append_left
abbrev zg:=@List.mem_range
abbrev zh:=@Nat.le_trans
abbrev zj:=@List.getElem?_take
abbrev zk:=@List.getElem?_set_ne
abbrev zl:=@List.length_map
abbrev zm:=@Nat.add_mul
abbrev zo:=@List.ext_getElem?
abbrev zp:=@List.getElem?_append_right
abbrev zr:=@List.nodup_cons
abbrev zt:=@Array.getElem?_eq_some_iff
abbrev zy:=@Nat.eq_of_beq_eq_true
abbrev zz:=@if_false
abbrev j3:=@List.append_assoc
abbrev j8:=@List.all_eq_true
abbrev j5:=@List.map_congr_left
abbrev jY:=@List.map_append
abbrev j4:=@List.getElem_mem
abbrev j0:=@Nat.add_zero
abbrev j2:=@List.length_drop
abbrev kr:=@Nat.lt_or_ge
abbrev kb:=@List.any_eq_true
abbrev kv:=@List.mem_append_left
abbrev kz:=@Nat.two_pow_pos
abbrev kO:=@List.getElem?_drop
abbrev kX:=@List.append_nil
abbrev k6:=@List.map_map
abbrev kZ:=@List.cons_append
abbrev k7:=@List.take_add_one
abbrev lN:=@List.length_nil
abbrev lX:=@Nat.mul_le_mul_right
abbrev lQ:=@Bool.eq_iff_iff
abbrev lW:=@Nat.mul_le_mul
abbrev mc:=@List.getElem?_replicate
abbrev l3:=@Nat.pow_succ
abbrev l6:=@Bool.not_eq_true'
abbrev mA:=@List.any_eq_false
abbrev mg:=@List.pairwise_iff_getElem
abbrev mj:=@beq_eq_false_iff_ne
abbrev mJ:=@List.getElem?_set
abbrev mT:=@List.take_of_length_le
abbrev mO:=@Nat.zero_lt_one
abbrev mV:=@List.take_length
abbrev nk:=@List.findIdx?_eq_some_iff_getElem
abbrev ns:=@Nat.mul_one
abbrev nj:=@Bool.or_eq_true
abbrev m4:=@List.getElem?_range
abbrev nr:=@List.set_set
abbrev nh:=@Bool.eq_false_iff
abbrev nQ:=@List.length_set
abbrev nK:=@List.nodup_append
abbrev nH:=@List.take_append_drop
abbrev nu:=@List.mem_cons_of_mem
abbrev nF:=@List.mem_append_right
abbrev nR:=@List.find?_eq_none
abbrev nG:=@List.sum_cons
abbrev nV:=@Option.map_eq_some_iff
abbrev oI:=@Nat.pow_le_pow_right
abbrev oD:=@List.take_append_of_le_length
abbrev oY:=@List.flatMap_cons
abbrev px:=@Nat.lt_trichotomy
abbrev pq:=@Option.isSome_iff_exists
abbrev pA:=@List.pairwise_append
abbrev pf:=@List.filter_eq_self
abbrev py:=@Option.getD_some
abbrev pd:=@List.mem_cons_self
abbrev pz:=@Nat.min_eq_left
abbrev pI:=@List.length_pos_iff
abbrev pS:=@List.foldl_cons
abbrev qs:=@List.map_nil
abbrev qk:=@Bool.not_eq_true
abbrev p8:=@Bool.true_and
abbrev qt:=@Nat.sub_self
abbrev pT:=@List.range_succ
abbrev rq:=@Nat.le_of_lt
abbrev qL:=@Array.getD_eq_getD_getElem?
abbrev rJ:=@List.contains_eq_mem
abbrev rF:=@List.set_cons_succ
abbrev qR:=@List.pairwise_cons
abbrev qT:=@List.length_filter_le
abbrev qO:=@Option.map_eq_none_iff
abbrev r7:=@Nat.div_div_eq_div_mul
abbrev tz:=@List.getElem?_modify
abbrev tB:=@List.filter_cons
abbrev rW:=@List.filter_sublist
abbrev sI:=@List.getElem_map
abbrev su:=@Bool.and_false
abbrev sv:=@List.mem_of_mem_drop
abbrev ta:=@Array.getElem?_append_left
abbrev sP:=@List.find?_some
abbrev tj:=@List.mem_of_find?_eq_some
abbrev sK:=@List.nil_append
abbrev sR:=@List.pairwise_map
abbrev sF:=@List.nodup_nil
abbrev sS:=@true_and
abbrev sG:=@of_decide_eq_true
abbrev tJ:=@Nat.mod_lt
abbrev uy:=@List.find?_cons
abbrev tG:=@List.all_cons
abbrev uk:=@List.map_id
abbrev uj:=@List.findIdx?_eq_none_iff
abbrev uD:=@Nat.mod_eq_of_lt
abbrev ui:=@Nat.mul_eq_zero
abbrev uf:=@Nat.zero_mul
abbrev ug:=@List.getElem_of_mem
abbrev uh:=@Bool.and_true
abbrev uB:=@Array.getElem?_modify
abbrev uC:=@Nat.lt_of_lt_of_le
abbrev uv:=@List.map_replicate
abbrev uq:=@Bool.decide_and
abbrev uK:=@Bool.false_and
abbrev uE:=@List.take_succ_cons
abbrev ux:=@List.filter_cons_of_neg
abbrev uJ:=@List.filter_cons_of_pos
abbrev tZ:=@List.filter_append
abbrev vS:=@Int.le_refl
abbrev vf:=@List.findIdx?_cons
abbrev vu:=@Array.getElem?_toList
abbrev wg:=@List.flatten_cons
abbrev vQ:=@Nat.mul_assoc
abbrev vz:=@Array.getElem?_push
abbrev vW:=@Nat.ne_of_lt
abbrev uZ:=@Array.length_toList
abbrev vI:=@List.filter_congr
abbrev vA:=@List.filterMap_append
abbrev wN:=@List.mem_filterMap
abbrev wq:=@Bool.not_false
abbrev vp:=@List.mem_of_mem_take
abbrev vT:=@Nat.eq_of_mul_eq_mul_right
abbrev wh:=@List.length_flatten
abbrev uY:=@List.sum_replicate_nat
abbrev u6:=@List.drop_eq_getElem_cons
abbrev wI:=@Nat.add_assoc
abbrev wE:=@List.replicate_succ
abbrev vB:=@List.map_set
abbrev wB:=@List.countP_cons
abbrev vN:=@List.length_eq_zero_iff
abbrev vd:=@List.filter_map
abbrev wO:=@List.foldl_append
abbrev uQ:=@List.count_append
abbrev uV:=@of_decide_eq_false
abbrev yj:=@Nat.div_mul_le_self
abbrev xF:=@List.map_eq_nil_iff
abbrev yv:=@Array.mem_of_getElem?
abbrev yk:=@Array.getElem?_setIfInBounds_ne
abbrev xN:=@List.mem_map_of_mem
abbrev yh:=@List.mem_replicate
abbrev wX:=@Nat.le_of_ble_eq_true
abbrev yx:=@Array.isEmpty_iff
abbrev wV:=@List.contains_iff_mem
abbrev yr:=@Bool.false_or
abbrev ym:=@List.countP_eq_length_filter
abbrev xU:=@List.length_range
abbrev xf:=@List.count_replicate
abbrev xI:=@List.take_take
abbrev yn:=@List.take_left'
abbrev xY:=@List.drop_succ_cons
abbrev xS:=@List.dropLast_eq_take
abbrev yu:=@List.mem_or_eq_of_mem_set
abbrev xy:=@List.take_zero
abbrev xA:=@List.getElem?_cons_zero
abbrev xw:=@List.count_eq_zero
abbrev xK:=@List.size_toArray
abbrev yq:=@Array.size_append
abbrev wW:=@Int.dvd_of_emod_eq_zero
abbrev Az:=@Nat.mul_div_cancel
abbrev BV:=@Array.toList_modify
abbrev BM:=@Array.toList_eraseIdxIfInBounds
abbrev Aw:=@List.replicate_succ'
abbrev yO:=@List.filter_filter
abbrev AG:=@List.filterMap_cons
abbrev A0:=@Nat.lt_of_le_of_lt
abbrev Ac:=@List.perm_ext_iff_of_nodup
abbrev AB:=@Option.toList_some
abbrev AE:=@Nat.eq_zero_or_pos
abbrev BN:=@List.length_dropLast
abbrev BX:=@List.getElem?_cons_succ
abbrev BL:=@List.eq_nil_of_length_eq_zero
abbrev Ay:=@Nat.add_sub_cancel_left
abbrev B2:=@List.take_sublist
abbrev As:=@List.find?_isSome
abbrev y6:=@List.eq_of_mem_replicate
abbrev yG:=@List.length_filter_lt_length_iff_exists
abbrev BU:=@List.length_singleton
abbrev yJ:=@List.getElem?_zipWith
abbrev Ba:=@List.nodup_iff_count
abbrev Al:=@List.count_pos_iff
abbrev Br:=@List.count_singleton_self
theorem cW {α:Type _}{l:List α}{i:Nat}{a:α}:l[i]?=some a↔∃h:i<l.length,l[i]=a:=List.getElem?_eq_some_iff
theorem cV {α:Type _}{l:List α}{i:Nat}(h:i<l.length):l[i]?=some l[i]:=List.getElem?_eq_getElem h
theorem dE (n:Nat):(n:Int).toNat=n:=Int.toNat_natCast n
theorem O{p:Prop}(h:p:=by omega):p:=h
theorem aA{p:Prop}(h:p:=by simp):p:=h
theorem aB{p:Prop}(h:p:=by decide):p:=h
theorem aC{p:Prop}(h:p:=by simp only;omega):p:=h
theorem aD{p:Prop}(h:p:=by first|omega | (simp only;omega)):p:=h
theorem aE{p:Prop}(h:p:=by simp;omega):p:=h
abbrev aW(b:Nat):Option Go.Addr:=some ⟨b,0,none⟩
namespace Go.Ar
structure bZ where
 size:Nat
 aF:Nat
 batch:Nat
 deriving DecidableEq
def bZ.n (c:bZ):Nat:=c.aF*256/c.size
def Ua (x y z:Int):Bool:=decide (8<=x)&&(decide (x<=512)&&(decide (x%8=0)&&(decide (1<=y)&&(decide (y<=4)&&(decide (x<=y*256)&&(decide (1<=z)&&decide (z<=32)))))))
def bZ.ok (c:bZ):Prop:=8<=c.size/\c.size<=512/\c.size%8=0/\1<=c.aF/\c.aF<=4/\c.size<=c.aF*256/\1<=c.batch/\c.batch<=32
theorem UM (x y z:Int):Ua x y z=true↔8<=x/\x<=512/\x%8=0/\1<=y/\y<=4/\x<=y*256/\1<=z/\z<=32:=by simp[Ua]
theorem B9 (c:bZ):Ua c.size c.aF c.batch=true↔c.ok:=by
 rw[UM];unfold bZ.ok;omega
def ZZ (t:Int×Int×Int):bZ:=⟨t.1.toNat,t.2.1.toNat,t.2.2.toNat⟩
theorem Gb {x y z:Int}(h:Ua x y z=true):∃c:bZ,c.ok/\ZZ (x,y,z)=c/\x=c.size/\y=c.aF/\z=c.batch:=by
 rw[UM]at h;refine⟨ZZ (x,y,z),?_,rfl,?_,?_,?_⟩<;>simp only[ZZ,bZ.ok]<;>omega
def tU:List (Int×Int×Int)->Bool
 | x::y::l=>decide (x.1<y.1)&&tU (y::l)
 | _=>true
def Qc (xs:List (Int×Int×Int)):Bool:=decide (1<=xs.length)&&(decide (xs.length<=40)&&(xs.all (λt=>Ua t.1 t.2.1 t.2.2)&&tU xs))
theorem bZ.ok.qX {c:bZ}(h:c.ok):1<=c.n:=by
 unfold bZ.ok at h;exact(Nat.one_le_div_iff O).2 h.2.2.2.2.2.1
theorem bZ.ok.j9 {c:bZ}(h:c.ok):c.n<=128:=by
 unfold bZ.ok at h;unfold bZ.n;have:c.aF*256/c.size<=1024/8:=Nat.div_le_div O O O;omega
theorem bZ.wm (c:bZ):c.n*c.size<=c.aF*256:=yj _ _
structure cG where
 st:Nat
 tk:List Bool
 deriving DecidableEq
def cG.many (s:cG):Nat:=s.tk.count true
def idx (c:bZ)(s:cG)(x:Int):Option Nat:=if x<((s.st*256:Nat):Int)\/((s.st*256+s.tk.length*c.size:Nat):Int)<=x then none else some ((x-((s.st*256:Nat):Int)).toNat/c.size)
def at_ (c:bZ)(s:cG)(i:Nat):Nat:=s.st*256+i*c.size
def obj (c:bZ)(s:cG)(x:Int):Option Nat:=match idx c s x with
 | some i=>if x=((at_ c s i:Nat):Int)then some i else none
 | none=>none
theorem VM {c:bZ}{s:cG}{x:Int}{i:Nat}(hc:0<c.size):idx c s x=some i↔((at_ c s i:Nat):Int)<=x/\x<((at_ c s (i+1):Nat):Int)/\i<s.tk.length:=by
 unfold idx at_;constructor
 ·intro h;split at h
  ·cases h
  ·rename_i hn;cases h;obtain⟨y,rfl⟩:=za (show 0<=x by omega);have e:((y:Int)-((s.st*256:Nat):Int)).toNat=y-s.st*256:=by omega
   rw[e];have g:(y-s.st*256)/c.size*c.size<=y-s.st*256:=yj _ _;have d:=Nat.lt_div_mul_add (a:=y-s.st*256) hc;have b:(y-s.st*256)/c.size<s.tk.length:=(Nat.div_lt_iff_lt_mul hc).2 O;rw[zm];omega
 ·rintro⟨g,d,b⟩;obtain⟨y,rfl⟩:=za (show 0<=x by omega);have j:(i+1)*c.size<=s.tk.length*c.size:=lX _ b;rw[zB O];have e:((y:Int)-((s.st*256:Nat):Int)).toNat=y-s.st*256:=by omega
  rw[e]
  congr 1
  rw[zm]at d;refine Nat.div_eq_of_lt_le ?_ ?_
  ·omega
  ·rw[zm];omega
theorem Up {c:bZ}{s:cG}{x:Int}{i:Nat}(hc:0<c.size):obj c s x=some i↔x=((at_ c s i:Nat):Int)/\i<s.tk.length:=by
 unfold obj;constructor
 ·intro h;split at h
  ·rename_i j hj;split at h
   ·cases h;rename_i he;exact⟨he,((VM hc).1 hj).2.2⟩
   ·cases h
  ·cases h
 ·rintro⟨rfl,hi⟩;have:idx c s ((at_ c s i:Nat):Int)=some i:=(VM hc).2 ⟨vS _,by unfold at_;rw[zm];omega,hi⟩;rw[this];simp
def low (s:cG):Option Nat:=s.tk.findIdx? (· == false)
def cG.put (s:cG)(i:Nat)(v:Bool):cG:={s with tk:=s.tk.set i v}
def kE (c:bZ)(ss:List cG)(x:Int):Option Nat:=ss.findIdx? λs=>(idx c s x).isSome
def dX (c:bZ)(ss:List cG)(x:Int):Option Bool:=match kE c ss x with
 | some k=>match ss[k]? with
  | some s=>(obj c s x).map λi=>s.tk.getD i false
  | none=>none
 | none=>none
def uW (x y:cG):Bool:=decide (x.many>y.many)||(x.many==y.many&&decide (x.st<y.st))
def Y8 (ss:List cG):Nat->Option Nat
 | 0=>none
 | k+1=>match ss[k]? with
  | some x=>if x.many<x.tk.length then(match Y8 ss k with
   | some j=>match ss[j]? with
    | some y=>if uW x y then some k else some j
    | none=>some k
   | none=>some k)else Y8 ss k
  | none=>Y8 ss k
def iG (ss:List cG):Option Nat:=Y8 ss ss.length
def iU (c:bZ)(ss:List cG):Option (Nat×List cG):=match iG ss with
 | some k=>match ss[k]? with
  | some s=>match low s with
   | some i=>some (at_ c s i,ss.set k (s.put i true))
   | none=>none
  | none=>none
 | none=>none
def QS (c:bZ):Nat->List cG->List Nat×List cG
 | 0,ss=>([],ss)
 | m+1,ss=>match iU c ss with
  | some (x,ss')=>let r:=QS c m ss';(x::r.1,r.2)
  | none=>([],ss)
def iB (c:bZ)(ss:List cG)(xs:List Int):Int:=
 if xs.any (λx=>(dX c ss x).isNone)then 8 else if xs.any (λx=>dX c ss x==some false) || !decide xs.Nodup then 9 else 0
def fD (c:bZ)(ss:List cG)(x:Int):List cG:=match kE c ss x with
 | some k=>match ss[k]? with
  | some s=>match obj c s x with
   | some i=>ss.set k (s.put i false)
   | none=>ss
  | none=>ss
 | none=>ss
def cF (ss:List cG):List cG:=ss.filter λs=>s.many != 0
def Qb (ss:List cG):List Nat:=(ss.filter λs=>s.many==0).map (·.st)
def pY (c:bZ)(ss:List cG)(x:Int):Option Nat:=match kE c ss x with
 | some k=>match ss[k]? with
  | some s=>(idx c s x).map (at_ c s)
  | none=>none
 | none=>none
def ig (c:bZ)(ss:List cG)(st:Nat):List cG:=ss.takeWhile (λs=>s.st<st)++⟨st,List.replicate c.n false⟩::ss.dropWhile (λs=>s.st<st)
def HY (c:bZ)(ss:List cG)(x:Nat):Int:=if ss.any (λs=>max s.st x-min s.st x<c.aF)then 9 else 0
def GI (ss:List cG):Nat:=(ss.map λs=>s.tk.length-s.many).sum
structure gD where
 low:Nat
 bs:List (List Int)
 deriving DecidableEq
def gg {α:Type}(l:List α)(a b:Nat)(v:α):List α:=l.mapIdx λi x=>if a<=i/\i<b then v else x
theorem Ku {α:Type}(l:List α)(a b:Nat)(v:α):(gg l a b v).length=l.length:=by simp[gg]
theorem UL {α:Type}(l:List α)(a b:Nat)(v:α)(i:Nat):(gg l a b v)[i]?=(l[i]?).map λx=>if a<=i/\i<b then v else x:=by
 simp[gg,List.getElem?_mapIdx]
theorem MJ {α:Type}{l:List α}{a b:Nat}{v:α}(h1:a<=b)(h2:b<=l.length):gg l a b v=l.take a++List.replicate (b-a) v++l.drop b:=by
 apply zo;intro i;rw[UL];rcases kr i a with h|h
 ·rw[j3,ze aE,zj,zC h];have:l[i]?=some l[i]:=cV O;rw[this];simp;omega
 rcases kr i b with h'|h'
 ·rw[j3,zp aE,ze aE];have:l[i]?=some l[i]:=cV O;rw[this];simp[mc,h,h'];omega
 ·rw[zp aE];have e:i-(l.take a++List.replicate (b-a) v).length=i-b:=by simp;omega
  rw[e,kO,show b+(i-b)=i by omega];cases l[i]?<;>simp;omega
def tf (l:List Nat)(a b v:Nat):Nat:=((l.drop a).take (b-a)).count v
end Go.Ar
namespace Go.Bu
def full (S:Nat->Bool)(k q:Nat):Bool:=(List.range (2^k)).all λi=>S (q*2^k+i)
def can (S:Nat->Bool)(k q:Nat):Bool:=full S k q && !full S (k+1) (q/2)
theorem GQ {k q i:Nat}(hi:i<2^k):(q*2^k+i)/2^k=q:=by
 rw[Nat.add_comm,Nat.add_mul_div_right _ _ (kz k),Nat.div_eq_of_lt hi,zH]
theorem HQ {k q p:Nat}(h:p/2^k=q):p=q*2^k+p%2^k:=by
 rw[←h,Nat.mul_comm];exact(Nat.div_add_mod p (2^k)).symm
theorem Z0 {k q p:Nat}:p/2^k=q↔q*2^k<=p/\p<q*2^k+2^k:=by
 have a:=kz k;constructor
 ·intro h;have:=HQ h;have b:=tJ p a;omega
 ·rintro⟨h1,h2⟩;have:p=q*2^k+(p-q*2^k):=by omega
  rw[this];exact GQ O
theorem Yr {S:Nat->Bool}{k q:Nat}:full S k q=true↔∀p,p/2^k=q->S p=true:=by
 simp only[full,j8,zg];constructor
 ·intro h p hp;have:=h (p%2^k) (tJ _ (kz k))
  rwa [←HQ hp]at this
 ·intro h i hi;exact h _ (GQ hi)
theorem Zt {S:Nat->Bool}{k q:Nat}:can S k q=true↔full S k q=true/\¬full S (k+1) (q/2)=true:=by
 simp[can]
theorem sD {p k j:Nat}(h:k<=j):p/2^j=p/2^k/2^(j-k):=by
 rw[r7,←Nat.pow_add]
 congr 2;omega
theorem EJ {S:Nat->Bool}{k j q:Nat}(h:k<=j)(hf:full S j (q/2^(j-k))=true):full S k q=true:=by
 rw[Yr]at hf ⊢;intro p hp;exact hf p (by rw[sD h,hp])
theorem Ec {q k j:Nat}(h:k<j):q/2/2^(j-(k+1))=q/2^(j-k):=by
 rw[r7]
 congr 1
 rw[←Nat.pow_succ']
 congr 1;omega
theorem QA {S:Nat->Bool}{k j q r p:Nat}(hk:can S k q=true)(hj:full S j r=true)(hp:p/2^k=q)(hr:p/2^j=r)(h:k<j):False:=by
 rw[Zt]at hk;refine hk.2 (EJ (j:=j) O ?_);rw[Ec h,←hp,←sD (rq h),hr];exact hj
theorem Du {S:Nat->Bool}{k j q r p:Nat}(hk:can S k q=true)(hj:can S j r=true)(hp:p/2^k=q)(hr:p/2^j=r):k=j/\q=r:=by
 rcases px k j with h|h|h
 ·exact(QA hk (Zt.1 hj).1 hp hr h).elim
 ·subst h;exact⟨rfl,hp.symm.trans hr⟩
 ·exact(QA hj (Zt.1 hk).1 hr hp h).elim
def Bounded (S:Nat->Bool)(n:Nat):Prop:=∀p,S p=true->p<n
theorem ZE {S:Nat->Bool}{n k q:Nat}(hb:Bounded S n)(h:full S k q=true):q*2^k+2^k<=n:=by
 rw[Yr]at h;have a:=kz k;have:=hb _ (h (q*2^k+(2^k-1)) (GQ O));omega
theorem JF {S:Nat->Bool}{p:Nat}:full S 0 p=S p:=by simp[full]
theorem Us {S:Nat->Bool}{n p:Nat}(hb:Bounded S n)(hp:S p=true):∃k,can S k (p/2^k)=true:=by
 apply Classical.byContradiction;intro hno;have all:∀k,full S k (p/2^k)=true:=by
  intro k
  induction k with
  | zero=>simpa[JF]using hp
  | succ k ih=>
   apply Classical.byContradiction;intro hn;refine hno ⟨k,Zt.2 ⟨ih,?_⟩⟩;rw[r7,←l3];exact hn
 have:=ZE hb (all n);have:=@Nat.lt_two_pow_self n;omega
theorem VI {S:Nat->Bool}{k q p:Nat}(h:can S k q=true)(hp:p/2^k=q):S p=true:=Yr.1 (Zt.1 h).1 p hp
def del (S:Nat->Bool)(k q:Nat):Nat->Bool:=λp=>S p && !(p/2^k==q)
def ins (S:Nat->Bool)(k q:Nat):Nat->Bool:=λp=>S p||p/2^k==q
theorem Vj {S:Nat->Bool}{k q p:Nat}:del S k q p=true↔S p=true/\p/2^k≠q:=by simp[del]
theorem Vn {S:Nat->Bool}{k q p:Nat}:ins S k q p=true↔S p=true\/p/2^k=q:=by simp[ins]
theorem Kv (k q:Nat):(q*2^k)/2^k=q:=Az _ (kz k)
theorem BI {S:Nat->Bool}{k q j r:Nat}(hc:can S k q=true):can (del S k q) j r=true↔can S j r=true/\¬(j=k/\r=q):=by
 constructor
 ·intro h;obtain⟨i,u⟩:=Zt.1 h;rw[Yr]at i;have s:full S j r=true:=Yr.2 λp b=>(Vj.1 (i p b)).1;refine⟨Zt.2 ⟨s,λg=>u (Yr.2 λp b=>?_)⟩,?_⟩
  ·refine Vj.2 ⟨Yr.1 g p b,λd=>?_⟩;rcases kr k (j+1)with m|m
   ·exact QA hc g d b m
   ·-- the greater Ze lies in the block
    have a:=Kv j r;have x:=(Vj.1 (i _ a)).2;apply x;rw[sD (show j+1<=k by omega)];have e:r*2^j/2^(j+1)=r/2:=by
     rw[l3,←r7,a]
    rw[e,←b,←sD (show j+1<=k by omega),d]
  ·rintro⟨rfl,rfl⟩;exact(Vj.1 (i _ (Kv _ _))).2 (Kv _ _)
 ·rintro⟨h,hne⟩;obtain⟨i,u⟩:=Zt.1 h;refine Zt.2 ⟨Yr.2 λp b=>Vj.2 ⟨Yr.1 i p b,λd=>hne ?_⟩,λg=>u (Yr.2 λp b=>(Vj.1 (Yr.1 g p b)).1)⟩;obtain⟨m,w⟩:=Du h hc b d;exact⟨m,w⟩
theorem xM {S:Nat->Bool}{k q j r:Nat}(hd:∀p,p/2^k=q->S p=false)(hup:¬full (ins S k q) (k+1) (q/2)=true) :
 can (ins S k q) j r=true↔can S j r=true\/(j=k/\r=q):=by
 have g:can (ins S k q) k q=true:=Zt.2 ⟨Yr.2 λp d=>Vn.2 (.inr d),hup⟩;constructor
 ·intro h;by_cases he:j=k/\r=q
  ·exact .inr he
  left;obtain⟨i,m⟩:=Zt.1 h;refine Zt.2 ⟨Yr.2 λp d=>?_,λb=>m (Yr.2 λp d=>Vn.2 (.inl (Yr.1 b p d)))⟩;rcases Vn.1 (Yr.1 i p d)with h1|h1
  ·exact h1
  ·exact(he (Du h g d h1)).elim
 ·rintro(h|⟨rfl,rfl⟩)
  ·obtain⟨i,m⟩:=Zt.1 h;refine Zt.2 ⟨Yr.2 λp d=>Vn.2 (.inl (Yr.1 i p d)),λb=>m (Yr.2 λp d=>?_)⟩;rcases Vn.1 (Yr.1 b p d)with h1|h1
   ·exact h1
   ·rcases kr k (j+1)with h2|h2
    ·refine(hup (EJ (j:=j+1) O ?_)).elim;have e:q/2^(j+1-k)=r/2:=by rw[←h1,←sD (show k<=j+1 by omega),d]
     rw[Ec h2,e];exact b
    ·have a:=Kv j r;have s:=Yr.1 i _ a;have e:r*2^j/2^(j+1)=r/2:=by
      rw[l3,←r7,a]
     have:r*2^j/2^k=q:=by
      rw[sD h2,e,←d,←sD h2,h1]
     rw[hd _ this]at s;cases s
  ·exact g
def gT (q:Nat):Nat:=if q%2=0 then q+1 else q-1
theorem Er (q:Nat):gT q/2=q/2:=by unfold gT;split<;>omega
theorem Lr (q:Nat):gT q≠q:=by unfold gT;split<;>omega
theorem JP {q r:Nat}(h:r/2=q/2):r=q\/r=gT q:=by unfold gT;split<;>omega
theorem UT {k q p:Nat}:p/2^(k+1)=q/2↔p/2^k=q\/p/2^k=gT q:=by
 rw[l3,←r7];constructor
 ·intro h;exact JP h
 ·rintro(h|h)<;>rw[h]
  exact Er q
theorem L1 {T:Nat->Bool}{k q:Nat}(hd:∀p,p/2^k=q->T p=false)(hm:¬can T k (gT q)=true):¬full (ins T k q) (k+1) (q/2)=true:=by
 intro hup;have a:full T k (gT q)=true:=Yr.2 λp b=>by
  rcases Vn.1 (Yr.1 hup p (UT.2 (.inr b)))with h|h
  ·exact h
  ·exact(Lr q (b.symm.trans h)).elim
 have:full T (k+1) (gT q/2)=true:=Classical.byContradiction λh=>hm (Zt.2 ⟨a,h⟩);rw[Er]at this;have d:=Yr.1 this (q*2^k) (UT.2 (.inl (Kv k q)));rw[hd _ (Kv k q)]at d;cases d
def dC (S:Nat->Bool)(a b:Nat):Nat->Bool:=λp=>S p||(decide (a<=p)&&decide (p<b))
def take (S:Nat->Bool)(a b:Nat):Nat->Bool:=λp=>S p && !(decide (a<=p)&&decide (p<b))
theorem QZ {S:Nat->Bool}{a b p:Nat}:dC S a b p=true↔S p=true\/(a<=p/\p<b):=by simp[dC]
theorem Kr {S:Nat->Bool}{a b p:Nat}:take S a b p=true↔S p=true/\¬(a<=p/\p<b):=by
 simp[take];intro _;omega
theorem GX {S T:Nat->Bool}(h:∀p,S p=true↔T p=true):S=T:=by
 funext p
 have:=h p;cases hs:S p<;>cases ht:T p<;>simp_all
theorem LJ (S:Nat->Bool)(k q:Nat):ins S k q=dC S (q*2^k) (q*2^k+2^k):=
 GX λp=>by rw[Vn,QZ,Z0]
theorem RK {S:Nat->Bool}{a b c:Nat}(h1:a<=b)(h2:b<=c):dC (dC S a b) b c=dC S a c:=
 GX λp=>by simp only[QZ];cases S p<;>simp<;>omega
theorem MF (S:Nat->Bool)(a:Nat):dC S a a=S:=GX λp=>by simp only[QZ];cases S p<;>simp<;>omega
theorem RZ (S:Nat->Bool)(a:Nat):take S a a=S:=GX λp=>by simp only[Kr];cases S p<;>simp<;>omega
def many (n:Nat)(S:Nat->Bool)(k:Nat):Nat:=(List.range n).countP (can S k)
def SA (S:Nat->Bool)(K p:Nat):Bool:=(List.range K).any λk=>can S k (p/2^k)
end Go.Bu
namespace Go.Vc
open Go
abbrev Hp:=Array Obj
abbrev _root_.aN:=Int->Hp->Prop
abbrev _root_.aO:=Bool->Hp->Prop
abbrev _root_.aP:=Hp->Prop
structure Sl where
 a:Option Addr
 len:Nat
 cap:Nat
structure Fv where
 f:Nat
 first:Array Value
 captured:Array Value
inductive CK where
 | i (k:IntKind)|b|p|s|m|str|fn|raw|ag (n:Nat)|ad
 deriving DecidableEq
abbrev _root_.bN:CK:=.i .i64
@[reducible] def je:Nat->Type
 | 0=>Unit
 | 1=>Int
 | n+2=>Int×je (n+1)
def je.vs:(n:Nat)->je n->List Value
 | 0,_=>[]
 | 1,x=>[.int .i64 x]
 | n+2,x=>.int .i64 x.1::je.vs (n+1) x.2
@[reducible] def CK.T:CK->Type
 | .i _=>Int
 | .b=>Bool
 | .p=>Option Addr
 | .s=>Sl
 | .m=>Option Nat
 | .str=>ByteArray
 | .fn=>Fv
 | .raw=>Value
 | .ag n=>je n
 | .ad=>Addr
def CK.v:(c:CK)->c.T->Value
 | .i k,y=>.int k y
 | .b,x=>.bool x
 | .p,y=>.pointer y
 | .s,y=>.slice y.a y.len y.cap
 | .m,y=>.map y
 | .str,x=>.string x
 | .fn,x=>.func (.func x.f) x.first x.captured
 | .raw,y=>y
 | .ag n,y=>.agg (je.vs n y).toArray
 | .ad,y=>.pointer (some y)
inductive SK where
 | one (c:CK)
 | agg (cs:List CK)
def SK.ks:SK->List CK
 | .one c=>[c]
 | .agg cs=>cs
def eR:List SK->List CK
 | []=>[]
 | s::ss=>s.ks++eR ss
@[reducible] def eO:List CK->Type
 | []=>Hp->Prop
 | c::cs=>c.T->eO cs
@[reducible] def oT:List CK->Type
 | []=>Hp->Nat
 | c::cs=>c.T->oT cs
def Sat:(ks:List CK)->eO ks->List Value->Hp->Prop
 | [],R,[],h=>R h
 | c::cs,R,v::vs,h=>∃x:c.T,v=c.v x/\Sat cs (R x) vs h
 | _,_,_,_=>False
def eO.le:(ks:List CK)->eO ks->eO ks->Prop
 | [],R,R'=>∀h,R h->R' h
 | c::cs,R,R'=>∀x:c.T,eO.le cs (R x) (R' x)
def lam:(ks:List CK)->(List Value->Hp->Prop)->eO ks
 | [],K=>K []
 | c::cs,K=>λx=>lam cs λvs=>K (c.v x::vs)
def wz:(n:Nat)->List Value->(je n->Prop)->Prop
 | 0,[],K=>K ()
 | 1,[.int .i64 x],K=>K x
 | n+2,.int .i64 x::vs,K=>wz (n+1) vs λy=>K (x,y)
 | _,_,_=>False
theorem Eh:∀{n:Nat} {vs:List Value} {K:je n->Prop},wz n vs K->∃x,vs=je.vs n x/\K x:=by
 intro n vs K h;unfold wz at h;split at h
 ·exact⟨(),rfl,h⟩
 ·exact⟨_,rfl,h⟩
 ·obtain⟨y,rfl,a⟩:=Eh h;exact⟨_,rfl,a⟩
 ·exact h.elim
def mM:(c:CK)->Value->(c.T->Prop)->Prop
 | .i k,.int k' n,K=>if k=k' then K n else False
 | .b,.bool x,K=>K x
 | .p,.pointer a,K=>K a
 | .s,.slice a l c,K=>K ⟨a,l,c⟩
 | .m,.map r,K=>K r
 | .str,.string s,K=>K s
 | .fn,.func (.func f) x y,K=>K ⟨f,x,y⟩
 | .raw,v,K=>K v
 | .ag n,.agg cs,K=>wz n cs.toList K
 | .ad,.pointer (some a),K=>K a
 | _,_,_=>False
def rm:(ks:List CK)->eO ks->List Value->Hp->Prop
 | [],R,[],h=>R h
 | c::cs,R,v::vs,h=>mM c v λx=>rm cs (R x) vs h
 | _,_,_,_=>False
theorem Vw {c:CK}{v:Value}{K:c.T->Prop}(h:mM c v K):∃x,v=c.v x/\K x:=by
 cases c<;>cases v<;>simp only[mM]at h<;>try exact h.elim
 case i.int k k' n=>split at h<;>first|exact h.elim | (rename_i e;subst e;exact⟨n,rfl,h⟩)
 case fn.func f x y=>cases f<;>simp only[mM]at h<;>first|exact h.elim|exact⟨⟨_,x,y⟩,rfl,h⟩
 case b.bool x=>exact⟨x,rfl,h⟩
 case p.pointer a=>exact⟨a,rfl,h⟩
 case s.slice a l c=>exact⟨⟨a,l,c⟩,rfl,h⟩
 case m.map r=>exact⟨r,rfl,h⟩
 case str.string s=>exact⟨s,rfl,h⟩
 case ad.pointer p=>cases p<;>simp only[mM]at h<;>first|exact h.elim|exact⟨_,rfl,h⟩
 case ag.agg n cs=>obtain⟨x,e,d⟩:=Eh h;exact⟨x,by simp only[CK.v,←e],d⟩
 all_goals exact⟨_,rfl,h⟩
theorem EZ:∀(n:Nat) (x:je n) (K:je n->Prop),wz n (je.vs n x) K=K x
 | 0,_,_=>rfl
 | 1,_,_=>rfl
 | n+2,x,K=>EZ (n+1) x.2 _
theorem Nf (c:CK)(x:c.T)(K:c.T->Prop):mM c (c.v x) K=K x:=by
 cases c<;>simp[mM,CK.v]
 exact iff_of_eq (EZ _ _ _)
theorem UF:∀{ks:List CK} {R:eO ks} {vs:List Value} {h:Hp},rm ks R vs h->Sat ks R vs h
 | [],_,[],_,h=>h
 | _::_,_,_::_,_,h=>by
  obtain⟨x,e,hx⟩:=Vw h;exact⟨x,e,UF hx⟩
 | [],_,_::_,_,h=>h.elim
 | _::_,_,[],_,h=>h.elim
theorem Sat.mono:∀{ks:List CK} {R R':eO ks},eO.le ks R R'->∀{vs:List Value} {h:Hp},Sat ks R vs h->Sat ks R' vs h
 | [],_,_,hl,[],_,h=>hl _ h
 | _::_,_,_,hl,_::_,_,⟨x,e,h⟩=>⟨x,e,Sat.mono (hl x) h⟩
 | [],_,_,_,_::_,_,h=>h.elim
 | _::_,_,_,_,[],_,h=>h.elim
theorem VB:∀{ks:List CK} {K:List Value->Hp->Prop} {vs:List Value} {h:Hp},Sat ks (lam ks K) vs h->K vs h
 | [],_,[],_,h=>h
 | _::_,K,v::vs,h,hs=>by
  obtain⟨x,rfl,h'⟩:=hs;exact VB (K:=λvs=>K (CK.v _ x::vs)) h'
 | [],_,_::_,_,h=>h.elim
 | _::_,_,[],_,h=>h.elim
abbrev Env:=Nat->Option Value
def Env.nil:Env:=λ_=>none
def Env.put (ρ:Env)(d:Nat)(v:Value):Env:=λi=>bif Nat.beq i d then some v else ρ i
def Env.hU (ρ:Env):Option Nat->Value->Env
 | some d,v=>ρ.put d v
 | none,_=>ρ
def Env.dS (ρ:Env)(ds:List Nat):Env:=λi=>bif ds.contains i then none else ρ i
def ev (ρ:Env):Operand->Option Value
 | .tmp t=>ρ t
 | .const v=>some v
 | .global g=>some (.pointer (some ⟨g,0,none⟩))
 | .func f=>some (.func (.func f) #[] #[])
def wv (o:Option Value)(K:Value->Prop):Prop:=match o with|some v=>K v|none=>False
def pn (ρ:Env):List Operand->Option (List Value)
 | []=>some []
 | o::os=>match ev ρ o,pn ρ os with|some v,some vs=>some (v::vs)|_,_=>none
def cell (h:Hp)(a:Addr):Option Value:=
 match h[a.block]? with
 | some (.cells c _ _)=>if a.spot.isSome then none else c[a.off]?
 | _=>none
def m6 (h:Hp)(a:Addr):Bool:=
 match h[a.block]? with
 | some (.cells _ _ (lo,hi))=>lo<=a.off&&a.off<hi
 | _=>false
def jI (h:Hp)(a:Addr)(v:Value):Hp:=
 h.modify a.block fun
  | .cells c elem frozen=>.cells (if a.spot.isSome then c else c.setIfInBounds a.off v) elem frozen
  | o=>o
def gp (k:IntKind)(a:Addr)(h:Hp)(K:Int->Prop):Prop:=∃n,cell h a=some (.int k n)/\K n
def lC (a:Addr)(h:Hp)(K:Bool->Prop):Prop:=∃n,cell h a=some (.bool n)/\K n
def fT (a:Addr)(h:Hp)(K:Option Addr->Prop):Prop:=∃n,cell h a=some (.pointer n)/\K n
def jr (a:Addr)(h:Hp)(K:Sl->Prop):Prop:=∃n:Sl,cell h a=some (.slice n.a n.len n.cap)/\K n
def k8 (a:Addr)(h:Hp)(K:Option Nat->Prop):Prop:=∃n,cell h a=some (.map n)/\K n
def wC (a:Addr)(h:Hp)(K:ByteArray->Prop):Prop:=∃n,cell h a=some (.string n)/\K n
def I7 (a:Addr)(h:Hp)(K:Fv->Prop):Prop:=∃n:Fv,cell h a=some (.func (.func n.f) n.first n.captured)/\K n
def wZ (a:Addr)(h:Hp)(K:Value->Prop):Prop:=∃n,cell h a=some n/\K n
def Sb (n:Nat)(a:Addr)(h:Hp)(K:je n->Prop):Prop:=∃x,cell h a=some (CK.v (.ag n) x)/\K x
def Bv (a:Addr)(h:Hp)(K:Addr->Prop):Prop:=∃x,cell h a=some (.pointer (some x))/\K x
def ye:(c:CK)->Addr->Hp->(c.T->Prop)->Prop
 | .i k,a,h,K=>gp k a h K
 | .b,a,h,K=>lC a h K
 | .p,a,h,K=>fT a h K
 | .s,a,h,K=>jr a h K
 | .m,a,h,K=>k8 a h K
 | .str,a,h,K=>wC a h K
 | .fn,a,h,K=>I7 a h K
 | .raw,a,h,K=>wZ a h K
 | .ag n,a,h,K=>Sb n a h K
 | .ad,a,h,K=>Bv a h K
def nt:List CK->Addr->Nat->Hp->(List Value->Prop)->Prop
 | [],_,_,_,K=>K []
 | c::cs,a,i,h,K=>ye c (a.add i) h λx=>nt cs a (i+1) h λvs=>K (c.v x::vs)
def jZ (v:Value)(t:TypeId)(vs zs:List Value)(b:Bool):Prop:=match b with
 | true=>v=.iface t (.agg vs.toArray)
 | false=>vs=zs/\(v=.nilIface\/∃t' u,v=.iface t' u/\t'≠t)
def uN (v:Value)(t:TypeId)(zs:List Value):List CK->List Value->(List Value->Bool->Prop)->Prop
 | [],acc,K=>∃b:Bool,jZ v t acc zs b/\K acc b
 | c::cs,acc,K=>∃x:c.T,uN v t zs cs (acc++[c.v x]) K
theorem uN.out {v:Value}{t:TypeId}{zs:List Value}:∀{cs:List CK} {acc:List Value} {K:List Value->Bool->Prop},uN v t zs cs acc K->∃vs b,jZ v t vs zs b/\K vs b
 | [],acc,K,⟨b,h1,h2⟩=>⟨acc,b,h1,h2⟩
 | c::cs,acc,K,⟨x,h⟩=>uN.out h
def iP (v:Value):Prop:=v=.nilIface\/∃t u,v=.iface t u
def kg:Value->Bool
 | .nilIface=>true
 | _=>false
def O1 (v:Value)(A:Prop):Prop:=match v with
 | .agg _=>False
 | .tuple _=>False
 | _=>A
def xL:List Value->Prop->Prop
 | [],A=>A
 | v::vs,A=>O1 v (xL vs A)
def bU (p:Option Addr)(K:Addr->Prop):Prop:=∃a,p=some a/\K a
def Ar (k:IntKind)(e:Int)(K:Int->Prop):Prop:=K (k.wrap e)
def Nz (y:Int)(A:Prop):Prop:=y≠0/\A
def Nn (y:Int)(A:Prop):Prop:=0<=y/\A
def Ix (base:Option Addr)(len:Nat)(i:Int)(sz:Nat)(K:Addr->Prop):Prop:=∃a,base=some a/\0<=i/\i<(len:Int)/\K (a.add (i.toNat*sz))
def nN (a:Addr)(len:Nat)(i:Int)(sz:Nat)(K:Addr->Prop):Prop:=0<=i/\i<(len:Int)/\K (a.add (i.toNat*sz))
def Nk (s:ByteArray)(i:Int)(K:Int->Prop):Prop:=∃b,0<=i/\s[i.toNat]?=some b/\K (b.toNat:Int)
def If (b:Bool)(A B:Prop):Prop:=match b with
 | true=>A
 | false=>B
theorem If.t {b:Bool}{A B:Prop}(h:If b A B)(e:b=true):A:=by subst e;exact h
theorem If.f {b:Bool}{A B:Prop}(h:If b A B)(e:b=false):B:=by subst e;exact h
theorem If.mk {b:Bool}{A B:Prop}(h1:b=true->A)(h2:b=false->B):If b A B:=by cases b;exact h2 rfl;exact h1 rfl
def Nw (o:Obj)(h:Hp)(K:Addr->Hp->Prop):Prop:=K ⟨h.size,0,none⟩ (h.push o)
def dW (a:Addr)(v:Value)(h:Hp)(K:aP):Prop:=(cell h a).isSome=true/\m6 h a=false/\K (jI h a v)
def np (a:Addr)(h:Hp):List Value->Nat->(Hp->Prop)->Prop
 | [],_,K=>K h
 | v::vs,i,K=>dW (a.add i) v h λh'=>np a h' vs (i+1) K
def eX (s:Sl)(sz:Nat)(lo hi mx:Int)(K:Sl->Prop):Prop:=
 0<=lo/\lo<=hi/\hi<=mx/\mx<=(s.cap:Int)/\K ⟨if mx.toNat=lo.toNat then s.a else s.a.map (·.add (lo.toNat*sz)),hi.toNat-lo.toNat,mx.toNat-lo.toNat⟩
def dH (h:Hp)(r:Nat)(k:IntKind)(c:CK)(l:List (Int×c.T)):Prop:=
 ∃es clk,h[r]?=some (.map es clk)/\es.toList.map (λe=>(e.key,e.val))=l.map (λx=>(Value.int k x.1,c.v x.2)) ∧
  (l.map (·.1)).Nodup/\(es.toList.map (·.born)).Pairwise (· < ·)/\∀e∈es.toList,e.born<clk
def jh (h:Hp)(m:Option Nat)(k:IntKind)(c:CK)(l:List (Int×c.T)):Prop:=
 match m with
 | none=>l=[]
 | some r=>dH h r k c l
def bV {α:Type}(l:List (Int×α))(n:Int):Option α:=(l.find? λx=>x.1==n).map (·.2)
def dB {α:Type}(l:List (Int×α))(n:Int)(v:α):List (Int×α):=
 if l.any (λx=>x.1==n)then l.map (λx=>if x.1==n then(n,v)else x)else l++[(n,v)]
def cT {α:Type}(l:List (Int×α))(n:Int):List (Int×α):=l.filter λx=>!(x.1==n)
def Qm (h h':Hp)(r:Nat):Prop:=h'.size=h.size/\∀b,b≠r->h'[b]?=h[b]?
def Lk (k:IntKind)(c:CK)(m:Option Nat)(n:Int)(h:Hp)(K:Option c.T->Prop):Prop:=∃l,jh h m k c l/\K (bV l n)
def qG (k:IntKind)(c:CK)(m:Option Nat)(h:Hp)(K:Int->Prop):Prop:=∃l,jh h m k c l/\K (l.length:Int)
def ke (k:IntKind)(c:CK)(m:Option Nat)(n:Int)(x:c.T)(h:Hp)(K:aP):Prop:=
 ∃r l,m=some r/\dH h r k c l/\∀h',Qm h h' r->dH h' r k c (dB l n x)->K h'
def ld (k:IntKind)(c:CK)(m:Option Nat)(n:Int)(h:Hp)(K:aP):Prop:=
 ∃l,jh h m k c l/\∀h',(∀r,m=some r->Qm h h' r)->(m=none->h'=h)->jh h' m k c (cT l n)->K h'
def It (h:Hp)(r:Nat)(k:IntKind)(c:CK)(m:Option Nat)(l todo:List (Int×c.T))(cur:Option (Int×c.T)):Prop:=
 match m with
 | none=>l=[]/\todo=[]/\cur=none/\∃s q y,h[r]?=some (.mapIter none s q y)
 | some b=>∃es clk seen,h[r]?=some (.mapIter (some b) clk seen clk)/\h[b]?=some (.map es clk)/\es.toList.map (λe=>(e.key,e.val))=l.map (λx=>(Value.int k x.1,c.v x.2)) ∧
  (l.map (·.1)).Nodup/\(es.toList.map (·.born)).Pairwise (· < ·)/\(∀e∈es.toList,e.born<clk) ∧
  (es.toList.filter λe=>!seen.contains e.born).map (λe=>(e.key,e.val))=todo.map (λx=>(Value.int k x.1,c.v x.2)) ∧
  (∀x,cur=some x->∃e∈es.toList,seen.back?=some e.born/\e.key=.int k x.1/\e.val=c.v x.2)
def nA (k:IntKind)(c:CK)(m:Option Nat)(h:Hp)(K:Addr->Hp->Prop):Prop:=
 ∃l,jh h m k c l/\∀h',h'.size=h.size+1->(∀b,b<h.size->h'[b]?=h[b]?)->It h' h.size k c m l l none->K ⟨h.size,0,none⟩ h'
def ny (k:IntKind)(c:CK)(a:Addr)(h:Hp)(A:Prop)(B:Int->c.T->Hp->Prop):Prop:=
 a.off=0/\∃m l todo cur,It h a.block k c m l todo cur/\(todo=[]->A) ∧
  ∀n x,(n,x)∈todo->∀h',Qm h h' a.block->It h' a.block k c m l (todo.filter λy=>!(y.1==n)) (some (n,x))->B n x h'
def nM (k:IntKind)(c:CK)(a:Addr)(h:Hp)(K:Int->c.T->Prop):Prop:=
 a.off=0/\∃m l todo n x,It h a.block k c m l todo (some (n,x))/\K n x
def dQ:Value->Bool
 | .agg _=>false
 | .tuple _=>false
 | _=>true
def Rd (h:Hp)(a:Option Addr)(xs:List Value):Prop:=
 match a with
 | none=>xs=[]
 | some a=>∀j v,xs[j]?=some v->cell h (a.add j)=some v
def Cw (s:Sl)(h:Hp)(K:ByteArray->Prop):Prop:=∃bs:List Int,bs.length=s.len/\Rd h s.a (bs.map (.int .u8))/\K ⟨(bs.map λn=>UInt8.ofNat n.toNat).toArray⟩
def App (s:Sl)(sz bytes:Nat)(e:Nat)(zs:List Value)(x:Sl)(h:Hp)(K:Sl->Hp->Prop):Prop:=
 ∃xs ys,xs.length=s.len*sz/\ys.length=x.len*sz/\Rd h s.a xs/\Rd h x.a ys/\(∀v∈ys,dQ v=true)/\(s.len+x.len)*bytes<=2^46/\s.len+x.len<=2^62 ∧
  (s.len+x.len<=s.cap->match s.a with
   | some a=>np (a.add (s.len*sz)) h ys 0 λh'=>K ⟨s.a,s.len+x.len,s.cap⟩ h'
   | none=>K ⟨none,s.len+x.len,s.cap⟩ h) ∧
  (¬s.len+x.len<=s.cap->∀c,s.len+x.len<=c->Nw (.cells (xs++ys++(List.replicate (c-(s.len+x.len)) zs).flatten).toArray e) h λa h'=>K ⟨some a,s.len+x.len,c⟩ h')
def sU (s:Sl)(sz bytes:Nat)(e:Nat)(zs:List Value)(n:Int)(h:Hp)(K:Sl->Hp->Prop):Prop:=
 0<=n/\∃xs,xs.length=s.len*sz/\Rd h s.a xs/\(∀v∈zs,dQ v=true)/\(s.len+n.toNat)*bytes<=2^46/\s.len+n.toNat<=2^62/\(n.toNat:Int)*bytes<=2^46 ∧
  (s.len+n.toNat<=s.cap->match s.a with
   | some a=>np (a.add (s.len*sz)) h (List.replicate n.toNat zs).flatten 0 λh'=>K ⟨s.a,s.len+n.toNat,s.cap⟩ h'
   | none=>K ⟨none,s.len+n.toNat,s.cap⟩ h) ∧
  (¬s.len+n.toNat<=s.cap->∀c,s.len+n.toNat<=c->Nw (.cells (xs++(List.replicate n.toNat zs).flatten++(List.replicate (c-(s.len+n.toNat)) zs).flatten).toArray e) h λa h'=>K ⟨some a,s.len+n.toNat,c⟩ h')
def sY (d:Sl)(sz:Nat)(s:Sl)(h:Hp)(K:aN):Prop:=
 ∃xs,xs.length=min s.len d.len*sz/\Rd h s.a xs/\(∀v∈xs,dQ v=true)/\match d.a with
  | some a=>np a h xs 0 λh'=>K ((min s.len d.len:Nat):Int) h'
  | none=>K ((min s.len d.len:Nat):Int) h
def xG (s:Sl)(zs:List Value)(h:Hp)(K:aP):Prop:=
 (∀v∈zs,dQ v=true)/\match s.a with
  | some a=>np a h (List.replicate s.len zs).flatten 0 K
  | none=>K h
def Mk (n c:Int)(bytes:Nat)(e:Nat)(zs:List Value)(h:Hp)(K:Sl->Hp->Prop):Prop:=
 0<=n/\n<=c/\(bytes:Int)*c<=2^46/\c<2^62/\Nw (.cells (List.replicate c.toNat zs).flatten.toArray e) h λa h'=>K ⟨some a,n.toNat,c.toNat⟩ h'
def W7 (w w':World):Prop:=w'.os=w.os/\w'.tape=w.tape/\w'.output=w.output/\w.heap.size<=w'.heap.size
def pH:List SK->List Value->List Value
 | [],_=>[]
 | .one _::ss,v::vs=>v::pH ss vs
 | .one _::ss,[]=>undef::pH ss []
 | .agg cs::ss,vs=>.agg (vs.take cs.length).toArray::pH ss (vs.drop cs.length)
def pack (rs:List SK)(vs:List Value):Value:=
 match pH rs vs with
 | [v]=>v
 | l=>.tuple l.toArray
def Wc (P:Program)(f:Nat)(args:Array Value)(rs:List SK)(h:Hp)(R:eO (eR rs)):Prop:=
 ∀w:World,w.heap=h->Calls P f args w λe w'=>W7 w w'/\∃vs,e=.returned (pack rs vs)/\Sat (eR rs) R vs w'.heap
theorem Wc.mono {P:Program}{f:Nat}{args:Array Value}{rs:List SK}{h:Hp}{R R':eO (eR rs)}(c:Wc P f args rs h R)(hl:eO.le (eR rs) R R'):Wc P f args rs h R':=
 λw b=>(c w b).mono λ_ _ ⟨a,vs,e,s⟩=>⟨a,vs,e,s.mono hl⟩
def iM (P:Program)(v:Value)(name:String)(args:List Value)(rs:List SK)(h:Hp)(R:eO (eR rs)):Prop:=
 ∃t u f,v=.iface t u/\(∀w,(method (P.types.size+Made.depth) t u name).run P w=.ok (f,u) w)/\(∀xs w,(callFunc f xs).run P w=.ok (.enter f xs) w)/\Wc P f (u::args).toArray rs h R
def E9 (P:Program)(fv:Fv)(args:List Value)(rs:List SK)(h:Hp)(R:eO (eR rs)):Prop:=
 Wc P fv.f (fv.first++args.toArray++fv.captured) rs h R
abbrev SK.I:SK:=.one bN
abbrev _root_.Go.Value.I (x:Int):Value:=.int .i64 x
def EC:TypeDesc->Option CK
 | .bool=>some .b
 | .int k=>some (.i k)
 | .string=>some .str
 | .pointer _=>some .p
 | .slice _=>some .s
 | .map _ _=>some .m
 | .func _ _ _=>some .fn
 | .interface _=>some .raw
 | _=>none
mutual
def BS (P:Program):Nat->TypeId->Option (List CK)
 | 0,_=>none
 | n+1,t=>
  match P.underlying t with
  | some (.struct fs)=>Di P n fs.toList
  | some (.array m e)=>(BS P n e).map λl=>(List.replicate m l).flatten
  | some d=>(EC d).map λc=>[c]
  | none=>none
def Di (P:Program):Nat->List Field->Option (List CK)
 | 0,_=>none
 | _+1,[]=>some []
 | n+1,f::fs=>match BS P n f.type,Di P n fs with
  | some a,some b=>some (a++b)
  | _,_=>none
end
def PL:SK->SK
 | .agg cs=>bif cs.all (· == .i .i64)then .one (.ag cs.length)else .agg cs
 | s=>s
def V4:TypeDesc->Bool
 | .struct _ | .array _ _=>true
 | _=>false
def jM (P:Program)(t:TypeId):Option SK:=
 match P.underlying t with
 | some d=>bif V4 d then(BS P 24 t).map .agg else(EC d).map .one
 | none=>none
def oB (P:Program)(t:TypeId):Option SK:=(jM P t).map PL
def fN (b:Bool)(A:Prop):Prop:=match b with|true=>A|false=>False
theorem Wu {b:Bool}{A:Prop}:fN b A↔b=true/\A:=by cases b<;>simp[fN]
def pK (op:BinOp)(k:IntKind)(x y:Int)(K:Value->Prop):Prop:=
 match op with
 | .add=>Ar k (x+y) λz=>K (.int k z)
 | .sub=>Ar k (x-y) λz=>K (.int k z)
 | .mul=>Ar k (x*y) λz=>K (.int k z)
 | .quo=>Nz y (Ar k (x.tdiv y) λz=>K (.int k z))
 | .rem=>Nz y (K (.int k (x.tmod y)))
 | .and=>K (.int k (bits .and k x y))
 | .or=>K (.int k (bits .or k x y))
 | .xor=>K (.int k (bits .xor k x y))
 | .andNot=>K (.int k (bits .andNot k x y))
 | .shl=>Nn y (Ar k (x*2^(min y.toNat k.bits)) λz=>K (.int k z))
 | .shr=>Nn y (K (.int k (x.fdiv (2^(min y.toNat k.bits)))))
 | .eql=>K (.bool (x==y))
 | .neq=>K (.bool (x != y))
 | .lss=>K (.bool (decide (x<y)))
 | .leq=>K (.bool (decide (x<=y)))
 | .gtr=>K (.bool (decide (x>y)))
 | .geq=>K (.bool (decide (x≥y)))
def mD (op:BinOp)(b:Bool)(K:Value->Prop):Prop:=
 match op with
 | .eql=>K (.bool b)
 | .neq=>K (.bool (!b))
 | _=>False
def lu (P:Program)(op:BinOp)(t:TypeId)(x y:Value)(K:Value->Prop):Prop:=
 match P.underlying t,x,y with
 | some (.pointer _),.pointer p,.pointer none=>mD op p.isNone K
 | some (.slice _),.slice p _ _,.slice none 0 0=>mD op p.isNone K
 | some (.map _ _),.map p,.map none=>mD op p.isNone K
 | some (.interface _),x,.nilIface=>iP x/\mD op (kg x) K
 | _,_,_=>False
def lM (P:Program)(op:BinOp)(t:TypeId)(x y:Value)(K:Value->Prop):Prop:=
 match x,y with
 | .int k a,.int k' b=>if k=k' then pK op k a b K else(match op with | .shl=>pK .shl k a b K | .shr=>pK .shr k a b K|_=>False)
 | .bool a,.bool b=>match P.underlying t with
  | some .bool=>mD op (a==b) K
  | _=>False
 | .string a,.string b=>match op with
  | .eql=>K (.bool (a.toList==b.toList))
  | .neq=>K (.bool (!(a.toList==b.toList)))
  | _=>False
 | _,_=>False
def oZ (P:Program)(xs ys:List Value):List Field->Option Bool
 | []=>some true
 | f::fs=>bif f.name == "_" then none else
  match P.underlying f.type,xs[f.offset]?,ys[f.offset]?,oZ P xs ys fs with
  | some (.int _),some (.int k a),some (.int k' b),some r=>if k=k' then some ((a==b)&&r)else none
  | some .bool,some (.bool a),some (.bool b),some r=>some ((a==b)&&r)
  | _,_,_,_=>none
def oc (P:Program)(e:TypeId)(xs ys:List Value):List Nat->Option Bool
 | []=>some true
 | i::is=>match P.underlying e,xs[i]?,ys[i]?,oc P e xs ys is with
  | some (.int _),some (.int k a),some (.int k' b),some r=>if k=k' then some ((a==b)&&r)else none
  | some (.pointer _),some (.pointer p),some (.pointer none),some r=>some (p.isNone&&r)
  | _,_,_,_=>none
def m5 (P:Program)(op:BinOp)(t:TypeId)(xs ys:List Value)(K:Value->Prop):Prop:=
 match P.underlying t with
 | some (.struct fs)=>fN (!P.stoodInHeld t && !P.eqGuardType P.depth t) (match oZ P xs ys fs.toList with
  | some b=>mD op b K
  | none=>False)
 | some (.array n e)=>fN (!P.eqGuardType P.depth t&&((P.info? e).isSome&&P.cellsOf e==1)) (match oc P e xs ys (List.range n)with
  | some b=>mD op b K
  | none=>False)
 | _=>False
def uM:Operand->Bool
 | .const (.pointer none)=>true
 | .const (.slice none 0 0)=>true
 | .const (.map none)=>true
 | .const .nilIface=>true
 | _=>false
def vO (P:Program)(op:BinOp)(t:TypeId)(y:Operand)(vx vy:Value)(K:Value->Prop):Prop:=
 bif uM y then lu P op t vx vy K else match vx,vy with
 | .agg xs,.agg ys=>m5 P op t xs.toList ys.toList K
 | vx,vy=>lM P op t vx vy K
def nb (P:Program)(s f:Nat)(K:Field->Prop):Prop:=
 match P.underlying s with
 | some (.struct fs)=>match fs[f]? with
  | some fd=>K fd
  | none=>False
 | _=>False
def lD (P:Program)(t:TypeId)(x:Value)(h:Hp)(K:Value->Prop):Prop:=
 match P.underlying t,x with
 | some (.slice _),.slice _ n _=>K (.int .i64 (n:Int))
 | some .string,.string s=>K (.int .i64 (s.size:Int))
 | some (.array n _),_=>K (.int .i64 (n:Int))
 | some (.map kt et),.map m=>match P.underlying kt,oB P et with
  | some (.int k),some (.one c)=>qG k c m h λz=>K (.int .i64 z)
  | _,_=>False
 | _,_=>False
def wU (P:Program)(t:TypeId)(x i:Value)(ok:Bool)(h:Hp)(K:Value->Prop):Prop:=
 match P.underlying t,x,i with
 | some (.map kt et),.map m,.int k n=>match P.underlying kt,oB P et,P.info? et with
  | some (.int k'),some (.one c),some ti=>match ti.zero with
   | some z=>if k=k' then mM c z λz=>Lk k c m n h λo=>K (bif ok then .tuple #[c.v (o.getD z),.bool o.isSome]else c.v (o.getD z))else False
   | none=>False
  | _,_,_=>False
 | _,_,_=>False
def om (isMax:Bool):Value->List Value->(Value->Prop)->Prop
 | v,[],K=>K v
 | .int k x,.int _ y::vs,K=>om isMax (.int k (bif isMax then(if y>x then y else x)else(if y<x then y else x))) vs K
 | _,_,_=>False
def ru (Ze:Nat->Option (Nat×Nat))(cells:List Value):List (Nat×Value)->Option (List Value)
 | []=>some cells
 | (i,v)::rest=>
  match Ze i with
  | none=>none
  | some (off,size)=>
   if v.cells.size≠size\/off+v.cells.size>cells.length then none
   else ru Ze (cells.take off++v.cells.toList++cells.drop (off+size)) rest
def Hl (ρ:Env):List (Nat×Operand)->Option (List (Nat×Value))
 | []=>some []
 | (i,o)::os=>match ev ρ o,Hl ρ os with|some v,some vs=>some ((i,v)::vs)|_,_=>none
def yR (P:Program)(fs:Array Field)(i:Nat):Option (Nat×Nat):=match fs[i]? with
 | some f=>match P.info? f.type with
  | some ti=>some (f.offset,ti.size)
  | none=>none
 | none=>none
def vj (P:Program)(t:TypeId):Bool:=match P.underlying t with
 | some (.interface _)=>true
 | _=>false
def vq (P:Program)(fs:Array Field)(i:Nat):Bool:=match fs[i]? with
 | some f=>vj P f.type
 | none=>false
def vV (raw:Nat->Bool):List (Nat×Value)->List (Nat×Value)
 | []=>[]
 | (i,v)::ps=>(i,bif raw i then .agg #[v]else v)::vV raw ps
def lH (raw:Nat->Bool):List (Nat×Value)->Prop->Prop
 | [],A=>A
 | (i,v)::ps,A=>bif raw i then iP v/\lH raw ps A else lH raw ps A
def mX (P:Program)(t:TypeId)(ps:List (Nat×Value))(K:Value->Prop):Prop:=
 match P.info? t,P.underlying t with
 | some ti,some (.struct fs)=>match ti.zero with
  | some z=>lH (vq P fs) ps (match ru (yR P fs) z.cells.toList (vV (vq P fs) ps)with
   | some cs=>fN (fs.toList.all λf=>(P.info? f.type).isSome) (K (.agg cs.toArray))
   | none=>False)
  | none=>False
 | some ti,some (.array _ e)=>match ti.zero,P.info? e with
  | some z,some te=>match ru (λi=>some (i*te.size,te.size)) z.cells.toList ps with
   | some cs=>K (.agg cs.toArray)
   | none=>False
  | _,_=>False
 | _,_=>False
def uo (P:Program)(t:TypeId)(cs:List Value)(off:Nat)(K:Value->Prop):Prop:=
 match P.underlying t,P.info? t with
 | some d,some ti=>bif V4 d then K (.agg ((cs.drop off).take ti.size).toArray)else wv (cs[off]?) K
 | _,_=>False
def nf (P:Program)(t:TypeId)(x:Value)(lo hi mx:Option Value)(K:Value->Prop):Prop:=
 match P.underlying t,x with
 | some (.slice e),.slice a n c=>match P.info? e with
  | some ti=>
   let loV:Option Int:=match lo with|none=>some 0|some (.int .i64 z)=>some z|_=>none
   let hiV:Option Int:=match hi with|none=>some n|some (.int .i64 z)=>some z|_=>none
   let mxV:Option Int:=match mx,hi with|none,_=>some c|some (.int .i64 z),some _=>some z|_,_=>none
   match loV,hiV,mxV with
   | some l,some h,some m=>eX ⟨a,n,c⟩ ti.size l h m λs=>K (.slice s.a s.len s.cap)
   | _,_,_=>False
  | none=>False
 | _,_=>False
def tT (ρ:Env):Option Operand->Option (Option Value)
 | none=>some none
 | some o=>(ev ρ o).map some
def qK (P:Program)(o:Op)(ρ:Env)(h:Hp)(K:Value->Prop):Prop:=
 match o with
 | .move x=>wv (ev ρ x) K
 | .assign x=>wv (ev ρ x) K
 | .pick c x y=>wv (ev ρ c) λv=>match v with
  | .bool true=>wv (ev ρ x) K
  | .bool false=>wv (ev ρ y) K
  | _=>False
 | .load t a=>wv (ev ρ a) λv=>match v,jM P t with
  | .pointer (some a),some (.one c)=>fN (P.info? t).isSome (ye c a h λx=>K (c.v x))
  | .pointer (some a),some (.agg cs)=>fN (P.cellsOf t==cs.length) (fN (P.info? t).isSome (nt cs a 0 h λvs=>K (.agg vs.toArray)))
  | _,_=>False
 | .nilCheck x=>wv (ev ρ x) λv=>match v with
  | .pointer p=>bU p λa=>K (.pointer (some a))
  | .func (.func f) a b=>K (.func (.func f) a b)
  | _=>False
 | .binOp op t x y _=>wv (ev ρ x) λvx=>wv (ev ρ y) λvy=>vO P op t y vx vy K
 | .unOp op _ x=>wv (ev ρ x) λv=>match op,v with
  | .not,.bool b=>K (.bool (!b))
  | .neg,.int k n=>Ar k (0-n) λz=>K (.int k z)
  | _,_=>False
 | .convert s d x=>wv (ev ρ x) λv=>match P.underlying s,P.underlying d,v with
  | some _,some (.int k),.int _ n=>Ar k n λz=>K (.int k z)
  | some _,some .string,.string x=>K (.string x)
  | some (.slice e),some .string,.slice a n c=>(match P.underlying e with|some (.int .u8)=>Cw ⟨a,n,c⟩ h λs=>K (.string s)|_=>False)
  | _,_,_=>False
 | .fieldAddr s x f=>wv (ev ρ x) λv=>nb P s f λfd=>match v with
  | .pointer (some a)=>fN (P.cellsOf fd.type != 0) (K (.pointer (some (a.add fd.offset))))
  | _=>False
 | .field s x f=>wv (ev ρ x) λv=>nb P s f λfd=>match v with
  | .agg cs=>uo P fd.type cs.toList fd.offset K
  | _=>False
 | .indexAddr t x i=>wv (ev ρ x) λvx=>wv (ev ρ i) λvi=>match P.underlying t,vx,vi with
  | some (.slice e),.slice b n _,.int _ i=>fN (P.info? e).isSome (Ix b n i (P.cellsOf e) λa=>K (.pointer (some a)))
  | some (.array n e),.pointer (some a),.int _ i=>fN (P.info? e).isSome (nN a n i (P.cellsOf e) λa=>K (.pointer (some a)))
  | _,_,_=>False
 | .index t x i=>wv (ev ρ x) λvx=>wv (ev ρ i) λvi=>match P.underlying t,vx,vi with
  | some .string,.string s,.int _ i=>Nk s i λz=>K (.int .u8 z)
  | _,_,_=>False
 | .lookup t x i ok=>wv (ev ρ x) λvx=>wv (ev ρ i) λvi=>wU P t vx vi ok h K
 | .extract t i=>wv (ev ρ t) λv=>match v with
  | .tuple vs=>wv (vs.toList[i]?) K
  | _=>False
 | .makeFunc fn a b=>match pn ρ a.toList,pn ρ b.toList with
  | some va,some vb=>K (.func fn va.toArray vb.toArray)
  | _,_=>False
 | .build t ps=>match Hl ρ ps.toList with
  | some vs=>mX P t vs K
  | none=>False
 | .slice t x lo hi mx=>wv (ev ρ x) λv=>match tT ρ lo,tT ρ hi,tT ρ mx with
  | some lo,some hi,some mx=>nf P t v lo hi mx K
  | _,_,_=>False
 | .makeInterface t x=>wv (ev ρ x) λv=>fN (P.concrete t) (K (.iface t v))
 | .typeAssert x _ t true=>wv (ev ρ x) λv=>match P.underlying t,P.info? t,jM P t with
  | some (.struct _),some ti,some (.agg cs)=>match ti.zero with
   | some (.agg zs)=>uN v t zs.toList cs [] λvs b=>K (.tuple #[.agg vs.toArray,.bool b])
   | _=>False
  | _,_,_=>False
 | .call c=>match c.callee,pn ρ c.args.toList,c.argTypes.toList with
  | .builtin .len,some [x],[t]=>lD P t x h K
  | .builtin .cap,some [.slice _ _ n],[t]=>(match P.underlying t with|some (.slice _)=>K (.int .i64 (n:Int))|_=>False)
  | .builtin .max,some (x::xs),_=>om true x xs K
  | .builtin .min,some (x::xs),_=>om false x xs K
  | _,_,_=>False
 | _=>False
def sq:Op->Bool
 | .move _ | .assign _ | .pick .. | .load _ _ | .nilCheck _ | .binOp .. | .unOp .. | .convert .. | .fieldAddr .. | .field .. | .indexAddr .. | .index .. | .lookup .. | .extract .. | .makeFunc .. | .build .. | .slice .. | .makeInterface .. => true
 | .typeAssert _ _ _ ok=>ok
 | .call c=>match c.callee with | .builtin .len | .builtin .cap | .builtin .max | .builtin .min=>true|_=>false
 | _=>false
theorem VO {P:Program}{t:Nat}{i:TypeInfo}(hi:P.info? t=some i)(w:World):(typeInfo t).run P w=.ok i w:=by
 simp[typeInfo,hi]
theorem QE {P:Program}{t:Nat}(h:(P.info? t).isSome=true)(w:World):(sizeOf t).run P w=.ok (P.cellsOf t) w:=by
 obtain⟨i,a⟩:=pq.1 h;simp[sizeOf,typeInfo,a,Program.cellsOf]
theorem Va {P:Program}{t:Nat}{i:TypeInfo}{z:Value}(hi:P.info? t=some i)(hz:i.zero=some z)(w:World):(zeroValue t).run P w=.ok z w:=by
 simp[zeroValue,typeInfo,hi,hz]
theorem NZ {P:Program}{op:BinOp}{t:Nat}{k:IntKind}{x y:Int}{K:Value->Prop}(h:pK op k x y K)(w:World) :
 ∃v,(binOp op t (.int k x) (.int k y)).run P w=.ok v w/\K v:=by
 cases op<;>simp only[pK,Ar,Nz,Nn]at h
 all_goals first
  | (refine⟨_,?_,h⟩;simp[binOp,Op.intArith,Op.intCmp,Op.intBits,bits];done)
  | (obtain⟨b,a⟩:=h;refine⟨_,?_,a⟩;simp[binOp,Op.intDiv,b];done)
  | (obtain⟨b,a⟩:=h;refine⟨_,?_,a⟩;simp[binOp,Op.shift,Int.not_lt.2 b];done)
theorem Uf {P:Program}{op:BinOp}{t:Nat}{x y:Value}{b:Bool}{K:Value->Prop}(h:mD op b K)(w:World)
 (hb:∀op,(op=.eql\/op=.neq)->binOp op t x y=if op=.eql then(do pure (.bool (←Op.equal t x y)))else(do pure (.bool (!(←Op.equal t x y)))))
 (he:(Op.equal t x y).run P w=.ok b w):∃v,(binOp op t x y).run P w=.ok v w/\K v:=by
 cases op<;>simp only[mD]at h
 case eql=>exact⟨_,by rw[hb .eql (.inl rfl)];simp[he],h⟩
 case neq=>exact⟨_,by rw[hb .neq (.inr rfl)];simp[he],h⟩
theorem Fc {P:Program}{t e:Nat}(hu:P.underlying t=some (.pointer e))(p:Option Addr)(d:Nat)(w:World):(Op.equalIn (d+1) t (.pointer p) (.pointer none)).run P w=.ok p.isNone w:=by
 cases p<;>simp[Op.equalIn,run_underlying hu]
theorem NC {P:Program}{t e:Nat}(hu:P.underlying t=some (.slice e))(p:Option Addr)(n c d:Nat)(w:World):(Op.equalIn (d+1) t (.slice p n c) (.slice none 0 0)).run P w=.ok p.isNone w:=by
 cases p<;>simp[Op.equalIn,run_underlying hu]
theorem JN {P:Program}{t k e:Nat}(hu:P.underlying t=some (.map k e))(p:Option Nat)(d:Nat)(w:World):(Op.equalIn (d+1) t (.map p) (.map none)).run P w=.ok p.isNone w:=by
 cases p<;>simp[Op.equalIn,run_underlying hu]
theorem IS {P:Program}{t:Nat}(hu:P.underlying t=some .bool)(a b:Bool)(d:Nat)(w:World):(Op.equalIn (d+1) t (.bool a) (.bool b)).run P w=.ok (a==b) w:=by
 simp[Op.equalIn,run_underlying hu]
theorem NQ {P:Program}{w:World}{s:Sl}{K:ByteArray->Prop}(h:Cw s w.heap K):∃b,(Conv.bytesToString (.slice s.a s.len s.cap)).run P w=.ok (.string b) w/\K b:=by
 obtain⟨g,m,d,p⟩:=h;refine⟨_,?_,p⟩;cases hs:s.a with
 | none=>
  rw[hs]at d;simp only[Rd,xF]at d;subst d;simp[Conv.bytesToString];rfl
 | some a=>
  rw[hs]at d;have e:(loadCells a s.len).run P w=.ok (g.map (Value.int .u8)).toArray w:=by
   rw[←m];simpa using run_loadCells_list (P:=P) (w:=w) a (g.map (Value.int .u8)) (λj v i=>d j v i)
  have key:∀(l:List Int) (acc:ByteArray),List.foldl (λb a=>b.push (UInt8.ofNat a.toNat)) acc l=⟨acc.data++(l.map λn=>UInt8.ofNat n.toNat).toArray⟩:=by
   intro l
   induction l with
   | nil=>intro acc;simp
   | cons n l ih=>intro acc;rw[pS,ih];congr 1;apply Array.ext';simp[ByteArray.push]
  simp only[Conv.bytesToString,Sem.run_bind,e,Result.andThen_ok];simp[key]
theorem OY {P:Program}{t:Nat}{ms:Array (String×TypeId)}(hu:P.underlying t=some (.interface ms)){v:Value}(hv:iP v)(d:Nat)(w:World):(Op.equalIn (d+1) t v .nilIface).run P w=.ok (kg v) w:=by
 rcases hv with rfl|⟨t',u,rfl⟩
 ·simp[Op.equalIn,run_underlying hu,kg]
 ·simp[Op.equalIn,run_underlying hu,kg]
theorem ID {P:Program}{xt t:TypeId}{ti:TypeInfo}{fs:Array Field}{v:Value}{vs zs:List Value}{b:Bool}(hu:P.underlying t=some (.struct fs))(hi:P.info? t=some ti)(hz:ti.zero=some (.agg zs.toArray))
 (h:jZ v t vs zs b) (w:World) :
 (Instr.typeAssert v xt t true).run P w=.ok (.tuple #[.agg vs.toArray,.bool b]) w:=by
 have a:=Va hi hz w;cases b with
 | true=>
  simp only[jZ]at h;subst h;simp[Instr.typeAssert,run_underlying hu]
 | false=>
  simp only[jZ]at h;obtain⟨rfl,h⟩:=h;rcases h with rfl|⟨t',u,rfl,hne⟩
  ·simp[Instr.typeAssert,run_underlying hu,a]
  ·simp[Instr.typeAssert,run_underlying hu,hne,a]
theorem Ro {P:Program}{op:BinOp}{t:Nat}{x y:Value}{K:Value->Prop}(h:lu P op t x y K)(w:World) :
 ∃v,(binOp op t x y).run P w=.ok v w/\K v:=by
 unfold lu at h;split at h
 case h_1 e p hu=>
  refine Uf h w ?_ ?_
  ·rintro op (rfl|rfl)<;>simp[binOp]
  ·exact Fc hu p 9999 w
 case h_2 e p _ _ hu=>
  refine Uf h w ?_ ?_
  ·rintro op (rfl|rfl)<;>simp[binOp]
  ·exact NC hu p _ _ 9999 w
 case h_3 e e' p hu=>
  refine Uf h w ?_ ?_
  ·rintro op (rfl|rfl)<;>simp[binOp]
  ·exact JN hu p 9999 w
 case h_4 ms hu=>
  obtain⟨a,h⟩:=h;refine Uf h w ?_ ?_
  ·rcases a with rfl|⟨t',u,rfl⟩<;>rintro op (rfl|rfl)<;>simp[binOp]
  ·exact OY hu a 9999 w
 ·exact h.elim
theorem Pe {P:Program}{op:BinOp}{t:Nat}{x y:Value}{K:Value->Prop}(h:lM P op t x y K)(w:World) :
 ∃v,(binOp op t x y).run P w=.ok v w/\K v:=by
 unfold lM at h;split at h
 case h_1 k a k' b=>
  split at h
  ·rename_i e;subst e;exact NZ h w
  ·cases op<;>simp only at h
   case shl=>simp only[pK,Ar,Nn]at h;obtain⟨g,d⟩:=h;exact⟨_,by simp[binOp,Op.shift,Int.not_lt.2 g],d⟩
   case shr=>simp only[pK,Ar,Nn]at h;obtain⟨g,d⟩:=h;exact⟨_,by simp[binOp,Op.shift,Int.not_lt.2 g],d⟩
 case h_2 a b=>
  split at h
  ·rename_i hu;refine Uf h w ?_ ?_
   ·rintro op (rfl|rfl)<;>simp[binOp]
   ·exact IS hu a b 9999 w
  ·exact h.elim
 case h_3 a b=>
  cases op<;>simp only at h
  ·exact⟨_,rfl,h⟩
  ·exact⟨_,rfl,h⟩
 ·exact h.elim
theorem G6 {c:CK}{a:Addr}{h:Hp}{K:c.T->Prop}(hl:ye c a h K):∃x,cell h a=some (c.v x)/\K x:=by
 cases c<;>exact hl
theorem BC {P:Program}{w:World}{a:Addr}{v:Value}(h:cell w.heap a=some v):(load a).run P w=.ok v w:=by
 have:w.cell? a=some v:=h;simp[this]
theorem GZ {P:Program}{w:World}:∀{cs:List CK} {a:Addr} {i:Nat} {K:List Value->Prop},nt cs a i w.heap K →
 ∃vs,vs.length=cs.length/\K vs/\∀acc,(loadCellsFrom a i cs.length acc).run P w=.ok (acc++vs.toArray) w
 | [],a,i,K,h=>⟨[],rfl,h,λacc=>by simp[loadCellsFrom]⟩
 | c::cs,a,i,K,h=>by
  obtain⟨x,hx,hK⟩:=G6 h;obtain⟨vs,d,b,e⟩:=GZ (P:=P) hK;refine⟨c.v x::vs,by simp[d],b,λacc=>?_⟩;simp only[zY,loadCellsFrom,Sem.run_bind,BC hx,Result.andThen_ok,e]
  congr 1
  apply Array.ext';simp
theorem KB {P:Program}{t:Nat}{d:TypeDesc}(h:P.underlying t=some d)(w:World):(isAgg t).run P w=.ok (V4 d) w:=by
 simp only[isAgg,Sem.run_bind,run_underlying h,Result.andThen_ok];cases d<;>rfl
theorem Cv {P:Program}{t:Nat}{c:CK}(h:jM P t=some (.one c)):∃d,P.underlying t=some d/\V4 d=false:=by
 unfold jM at h;split at h
 ·rename_i d hd;refine⟨d,hd,?_⟩;cases e:V4 d
  ·rfl
  ·rw[e]at h;simp at h
 ·cases h
theorem CL {P:Program}{t:Nat}{c:List CK}(h:jM P t=some (.agg c)):∃d,P.underlying t=some d/\V4 d=true:=by
 unfold jM at h;split at h
 ·rename_i d hd;refine⟨d,hd,?_⟩;cases e:V4 d
  ·rw[e]at h;simp at h
  ·rfl
 ·cases h
theorem O2 {P:Program}{t ty:Nat}{x:Value}{K:Value->Prop}{w:World}(h:lD P t x w.heap K) :
 ∃v,(Builtin.len_ #[t] ty #[x]).run P w=.ok v w/\K v:=by
 unfold lD at h;split at h
 case h_1 e a n c hu=>exact⟨_,by simp[Builtin.len_,run_underlying hu,goInt],h⟩
 case h_2 s hu=>exact⟨_,by simp[Builtin.len_,run_underlying hu,goInt],h⟩
 case h_3 n e y hu=>exact⟨_,by simp[Builtin.len_,run_underlying hu,goInt],h⟩
 case h_4 kt et m hu=>
  split at h
  case h_1 k c hk hs=>
   obtain⟨l,d,g⟩:=h;cases m with
   | none=>simp only[jh]at d;subst d;exact⟨_,by simp[Builtin.len_,run_underlying hu,goInt],g⟩
   | some r=>
    obtain⟨p,u,j,i,_⟩:=d;have b:p.size=l.length:=by simpa using congrArg List.length i
    refine⟨_,?_,g⟩;simp[Builtin.len_,run_underlying hu,goInt,getObj,Sem.run,j,b]
  ·exact h.elim
 ·exact h.elim
theorem GK {P:Program}{w:World}:∀{vs:List Value} {v:Value} {b:Bool} {K:Value->Prop},om b v vs K →
 ∃z,(vs.foldlM (if b then Builtin.max2 else Builtin.min2) v).run P w=.ok z w/\K z
 | [],v,b,K,h=>⟨v,by simp,by simpa[om]using h⟩
 | u::vs,v,b,K,h=>by
  cases v<;>cases u<;>simp only[om]at h<;>try exact h.elim
  case int.int k x k' y=>
   obtain⟨z,hz,hK⟩:=GK h;refine⟨z,?_,hK⟩;cases b
   ·simpa[Builtin.min2]using hz
   ·simpa[Builtin.max2]using hz
theorem ZF {ρ:Env}{a:Act}(hf:∀x v,ev ρ x=some v->a.eval x=v):∀{os:List Operand} {vs:List Value},pn ρ os=some vs->os.map a.eval=vs
 | [],vs,h=>by simp[pn]at h;simp[h]
 | o::os,vs,h=>by
  simp only[pn]at h;split at h
  ·rename_i v vs' h1 h2;cases h;simp[hf _ _ h1,ZF hf h2]
  ·cases h
theorem VD {ρ:Env}{a:Act}(hf:∀x v,ev ρ x=some v->a.eval x=v):∀{os:List (Nat×Operand)} {vs:List (Nat×Value)},Hl ρ os=some vs->os.map (λ(i,x)=>(i,a.eval x))=vs
 | [],vs,h=>by simp[Hl]at h;simp[h]
 | (i,o)::os,vs,h=>by
  simp only[Hl]at h;split at h
  ·rename_i v vs' h1 h2;cases h;simp[hf _ _ h1,VD hf h2]
  ·cases h
theorem HU {k:IntKind}{n:Int}{c:CK}:∀(es:List MapEntry) (l:List (Int×c.T)) (i:Nat),
 es.map (λe=>(e.key,e.val))=l.map (λx=>(Value.int k x.1,c.v x.2)) →
 Instr.findNow (.int k) (.int k n) es i=some (match l.findIdx? (λx=>x.1==n)with|some j=>some (i+j,match l[j]? with|some x=>c.v x.2|none=>undef)|none=>none)
 | [],l,i,h=>by
  cases l with
  | nil=>simp[Instr.findNow]
  | cons x l=>simp at h
 | e::es,[],i,h=>by simp at h
 | e::es,x::l,i,h=>by
  simp only[zS,List.cons.injEq,Prod.mk.injEq]at h;obtain⟨⟨h1,h2⟩,h3⟩:=h;have a:=HU (n:=n) es l (i+1) h3;simp only[Instr.findNow,h1,Instr.sameNow,zR];by_cases hx:n=x.1
  ·have e1:(n==x.1)=true:=by simpa using hx
   have e2:(x.1==n)=true:=by simpa using hx.symm
   simp[vf,e1,e2,h2]
  ·have e1:(n==x.1)=false:=by simpa using hx
   have e2:(x.1==n)=false:=by simpa using λh=>hx h.symm
   simp only[e1,a,vf,e2];cases List.findIdx? (λx=>x.1==n) l with
   | none=>simp
   | some j=>simp;omega
theorem Kf {P:Program}{kt:Nat}{k:IntKind}(hk:P.underlying kt=some (.int k)){n:Int}{c:CK}{es:List MapEntry}{l:List (Int×c.T)}
 (he:es.map (λe=>(e.key,e.val))=l.map (λx=>(Value.int k x.1,c.v x.2))) (w:World) :
 (Instr.findKey kt (.int k n) es).run P w=.ok (match l.findIdx? (λx=>x.1==n)with|some j=>some (j,match l[j]? with|some x=>c.v x.2|none=>undef)|none=>none) w:=by
 simp[Instr.findKey,run_underlying hk,HU es l 0 he]
theorem N2 {P:Program}{kt:Nat}{k:IntKind}(hk:P.underlying kt=some (.int k))(b:Bool)(n:Int)(d:Nat)(w:World) :
 (Instr.checkKey b (d+1) kt (.int k n)).run P w=.ok () w:=by
 simp[Instr.checkKey,run_underlying hk]
theorem Qw {P:Program}{kt:Nat}{k:IntKind}(hk:P.underlying kt=some (.int k))(b:Bool)(n:Int)(w:World) :
 (Instr.checkKey b 10000 kt (.int k n)).run P w=.ok () w:=N2 hk b n 9999 w
theorem Iv {α:Type}(l:List (Int×α))(n:Int):bV l n=(l.findIdx? (λx=>x.1==n)).bind λj=>(l[j]?).map (·.2):=by
 induction l with
 | nil=>rfl
 | cons x l ih=>
  simp only[bV,uy,vf]at *;cases h:x.1==n
  ·simp only[ih];cases List.findIdx? (λx=>x.1==n) l<;>simp
  ·simp
theorem V7 {α:Type}{l:List (Int×α)}{n:Int}{j:Nat}(h:l.findIdx? (λx=>x.1==n)=some j):∃x,l[j]?=some x/\x.1=n:=by
 rw[nk]at h;obtain⟨a,b,_⟩:=h;exact⟨l[j],by simp[a],by simpa using b⟩
theorem Is {P:Program}{t:Nat}{x i:Value}{ok:Bool}{K:Value->Prop}{w:World}(h:wU P t x i ok w.heap K) :
 ∃v,(Instr.lookup t x i ok).run P w=.ok v w/\K v:=by
 unfold wU at h;split at h
 case h_2=>exact h.elim
 rename_i kt et m k n hu;split at h
 case h_2=>exact h.elim
 rename_i k' c ti hk hs hi;split at h
 case h_2=>exact h.elim
 rename_i z hz;split at h
 case isFalse=>exact h.elim
 rename_i e;subst e;obtain⟨A,a,l,b,g⟩:=Vw h;refine⟨_,?_,g⟩;cases m with
 | none=>
  simp only[jh]at b;subst b;simp only[Instr.lookup,Sem.run_bind,run_underlying hu,Result.andThen_ok,Sem.run_pure,Qw hk,Kf (c:=c) (l:=[]) hk (rfl:List.map _ (#[]:Array MapEntry).toList=_),List.findIdx?_nil,Va hi hz];cases ok<;>simp[bV,a]
 | some r=>
  obtain⟨B,u,s,p,_⟩:=b;simp only[Instr.lookup,Sem.run_bind,run_underlying hu,Result.andThen_ok,Sem.run_pure,Qw hk,getObj,Sem.run,s,Kf hk p,Iv];cases hf:l.findIdx? (λx=>x.1==n)with
  | none=>cases ok<;>simp[Va hi hz,a]
  | some j=>
   obtain⟨y,d,_⟩:=V7 hf;cases ok<;>simp[d]
theorem Ft (off:Nat):∀(vs:List Value) (k:Nat) (cs:Array Value),off+k+vs.length<=cs.size →
 ((vs.zipIdx k).foldl (λcs (c,j)=>cs.setIfInBounds (off+j) c) cs).toList=cs.toList.take (off+k)++vs++cs.toList.drop (off+k+vs.length)
 | [],k,cs,h=>by simp
 | v::vs,k,cs,h=>by
  simp only[List.zipIdx_cons,pS];rw[Ft off vs (k+1) _ (by simp only[Array.size_setIfInBounds,zY]at *;omega)];simp only[zY]at h;have hlt:off+k<cs.toList.length:=by simp;omega
  simp only[Array.toList_setIfInBounds,zY];apply zo;intro m;simp only[List.getElem?_append,zZ,nQ,zO,zj,mJ,kO,List.getElem?_cons,zY]
  grind
theorem Ur (Ze:Nat->Option (Nat×Nat)):∀(ps:List (Nat×Value)) (cells:List Value) (cs:List Value),ru Ze cells ps=some cs->Instr.fill Ze cells.toArray ps=some cs.toArray
 | [],cells,cs,h=>by simp[ru]at h;simp[Instr.fill,h]
 | (i,v)::rest,cells,cs,h=>by
  simp only[ru]at h;simp only[Instr.fill];cases hp:Ze i with
  | none=>rw[hp]at h;cases h
  | some os=>
   obtain⟨off,size⟩:=os;rw[hp]at h;simp only at h ⊢;split at h
   ·cases h
   ·rename_i hc;simp only[not_or,Decidable.not_not,Nat.not_lt]at hc;obtain⟨a,b⟩:=hc;rw[zB (by simp[a];omega)];have:=Ft off v.cells.toList 0 cells.toArray aE;have e:(v.cells.zipIdx.foldl (λcs (c,j)=>cs.setIfInBounds (off+j) c) cells.toArray)=(cells.take off++v.cells.toList++cells.drop (off+size)).toArray:=by
     apply Array.ext';rw[←Array.foldl_toList,Array.toList_zipIdx,this];simp[a]
    rw[e];exact Ur Ze rest _ _ h
theorem GN {P:Program}{w:World}:∀(fs:List Field),(fs.all λf=>(P.info? f.type).isSome)=true →
 (fs.mapM λf=>(do pure (f.offset,←sizeOf f.type):Sem (Nat×Nat))).run P w=.ok (fs.map λf=>(f.offset,P.cellsOf f.type)) w
 | [],_=>by simp
 | f::fs,h=>by
  simp only[tG,zF]at h;have ih:=GN (P:=P) (w:=w) fs h.2;simp only[List.mapM_cons,Sem.run_bind,QE h.1,Result.andThen_ok,Sem.run_pure,ih,zS]
theorem yX {raw:Nat->Bool}:∀{ps:List (Nat×Value)} {A:Prop},lH raw ps A->A/\∀Ze cells,Instr.fill Ze cells (vV raw ps)=Instr.fill Ze cells ps
 | [],A,h=>⟨h,λ_ _=>rfl⟩
 | (i,v)::ps,A,h=>by
  simp only[lH]at h;cases hr:raw i
  ·rw[hr]at h;obtain⟨hA,ih⟩:=yX h;exact⟨hA,λZe cells=>by simp only[vV,Instr.fill,ih,hr,cond_false]⟩
  ·rw[hr]at h;simp only[cond_true]at h;obtain⟨hA,ih⟩:=yX h.2;have e:(Value.agg #[v]).cells=v.cells:=by
    rcases h.1 with rfl|⟨t,u,rfl⟩<;>rfl
   exact⟨hA,λZe cells=>by simp only[vV,Instr.fill,ih,hr,cond_true,e]⟩
theorem LC {P:Program}{t:Nat}{ps:Array (Nat×Value)}{K:Value->Prop}{w:World}(h:mX P t ps.toList K) :
 ∃v,(Instr.build t ps).run P w=.ok v w/\K v:=by
 unfold mX at h;split at h
 case h_1 p fs hi hu=>
  split at h
  case h_2=>exact h.elim
  rename_i z hz;obtain⟨h,g⟩:=yX h;split at h
  case h_2=>exact h.elim
  rename_i cs hf;rw[Wu]at h;obtain⟨a,r⟩:=h;refine⟨_,?_,r⟩;have u:=GN (P:=P) (w:=w) fs.toList a;have j:(fs.mapM λf=>(do pure (f.offset,←sizeOf f.type):Sem (Nat×Nat))).run P w=.ok (fs.map λf=>(f.offset,P.cellsOf f.type)) w:=by
   rw[Array.mapM_eq_mapM_toList];simp only[Sem.run_map,u,Result.andThen_ok]
   congr 1
   apply Array.ext';simp
  have m:(λi=>(fs.map λf=>(f.offset,P.cellsOf f.type))[i]?)=yR P fs:=by
   funext i
   simp only[yR,Array.getElem?_map];cases hfi:fs[i]? with
   | none=>simp
   | some f=>
    have b:f∈fs.toList:=by
     have:=yv hfi;simpa using this
    have:=j8.1 a f b;obtain⟨p,d⟩:=pq.1 this;simp[d,Program.cellsOf]
  have:=Ur _ _ _ _ hf;rw[g]at this;simp only[Instr.build,Sem.run_bind,Va hi hz,Result.andThen_ok,run_underlying hu,j,m];have e:z.cells.toList.toArray=z.cells:=by simp
  rw[e]at this;simp[this]
 case h_2 p n e hi hu=>
  split at h
  case h_2=>exact h.elim
  rename_i z te hz hte;split at h
  case h_2=>exact h.elim
  rename_i cs hf;refine⟨_,?_,h⟩;have:=Ur _ _ _ _ hf;have e1:z.cells.toList.toArray=z.cells:=by simp
  rw[e1]at this;have s:(sizeOf e).run P w=.ok te.size w:=by simp[sizeOf,VO hte]
  simp only[Instr.build,Sem.run_bind,Va hi hz,Result.andThen_ok,run_underlying hu,s];simp[this]
 ·exact h.elim
theorem Wr {o:Option Value}{K:Value->Prop}(h:wv o K):∃v,o=some v/\K v:=by
 cases o with
 | none=>exact h.elim
 | some v=>exact⟨v,rfl,h⟩
theorem PS {P:Program}{t off:Nat}{cs:Array Value}{K:Value->Prop}{w:World}(h:uo P t cs.toList off K) :
 ∃v,(part t cs off).run P w=.ok v w/\K v:=by
 unfold uo at h;split at h
 case h_2=>exact h.elim
 rename_i d ti hu hi;cases hd:V4 d
 ·rw[hd]at h;obtain⟨v,a,b⟩:=Wr h;refine⟨v,?_,b⟩;have:cs[off]?=some v:=by simpa using a
  simp[part,KB hu,hd,this]
 ·rw[hd]at h;refine⟨_,?_,h⟩;simp only[part,Sem.run_bind,KB hu,hd,Result.andThen_ok,sizeOf,VO hi,zR,Sem.run_pure]
  congr 2
  apply Array.ext';simp
theorem Q1 {P:Program}{w:World}{z:Int}{y:Nat}{code:BoundsCode}(h0:0<=z)(h1:z<=y):(Instr.sliceBound (.int .i64 z) y code).run P w=.ok z.toNat w:=by
 simp[Instr.sliceBound,asIntOf,h0,h1]
theorem FV {o:Option Value}{d l:Int}(h:(match o with|none=>some d|some (.int .i64 z)=>some z|_=>none)=some l):(o=none/\l=d)\/o=some (.int .i64 l):=by
 split at h
 ·simp at h;exact .inl ⟨rfl,h.symm⟩
 ·simp at h;subst h;exact .inr rfl
 ·cases h
theorem MX {P:Program}{t:Nat}{x:Value}{lo hi mx:Option Value}{K:Value->Prop}{w:World}(h:nf P t x lo hi mx K) :
 ∃v,(Instr.sliceAt t x lo hi mx).run P w=.ok v w/\K v:=by
 unfold nf at h;split at h
 case h_2=>exact h.elim
 rename_i e a n c hu;split at h
 case h_2=>exact h.elim
 rename_i ti hi';simp only at h;split at h
 case h_2=>exact h.elim
 rename_i l hh m hlo hhi hmx;obtain⟨r,u,A,p,j⟩:=h;refine⟨_,?_,j⟩;simp only at p;have d:(sizeOf e).run P w=.ok ti.size w:=by simp[sizeOf,VO hi']
 have g:(Instr.sliceBounds true n c lo hi mx).run P w=.ok (l.toNat,hh.toNat,m.toNat) w:=by
  have s:(mx=none/\m=c)\/(mx=some (.int .i64 m)/\hi≠none):=by
   split at hmx
   ·simp at hmx;exact .inl ⟨rfl,hmx.symm⟩
   ·simp at hmx;subst hmx;exact .inr ⟨rfl,by simp⟩
   ·cases hmx
  have i:=FV hlo;have b:=FV hhi;clear hlo hhi hmx;rcases s with⟨rfl,rfl⟩|⟨rfl,hne⟩<;>rcases b with⟨rfl,rfl⟩|rfl
  case inr.inl=>exact absurd rfl hne
  all_goals rcases i with⟨rfl,rfl⟩|rfl
  ·simp[Instr.sliceBounds]
  ·have:=Q1 (P:=P) (w:=w) (z:=l) (y:=n) (code:=.sliceB) r O;simp[Instr.sliceBounds,this]
  ·have:=Q1 (P:=P) (w:=w) (z:=hh) (y:=c) (code:=.sliceAcap) O O;simp[Instr.sliceBounds,this]
  ·have:=Q1 (P:=P) (w:=w) (z:=hh) (y:=c) (code:=.sliceAcap) O O;have:=Q1 (P:=P) (w:=w) (z:=l) (y:=hh.toNat) (code:=.sliceB) O O;simp[Instr.sliceBounds, *]
  ·have:=Q1 (P:=P) (w:=w) (z:=m) (y:=c) (code:=.slice3Acap) O O;have:=Q1 (P:=P) (w:=w) (z:=hh) (y:=m.toNat) (code:=.slice3B) O O;simp[Instr.sliceBounds, *]
  ·have:=Q1 (P:=P) (w:=w) (z:=m) (y:=c) (code:=.slice3Acap) O O;have:=Q1 (P:=P) (w:=w) (z:=hh) (y:=m.toNat) (code:=.slice3B) O O;have:=Q1 (P:=P) (w:=w) (z:=l) (y:=hh.toNat) (code:=.slice3C) O O;simp[Instr.sliceBounds, *]
 simp only[Instr.sliceAt,Instr.slice,Sem.run_bind,run_underlying hu,Result.andThen_ok,g,d,Sem.run_pure]
theorem Oc {P:Program}{op:BinOp}{t:Nat}{x y:Operand}{a b:Value}(w:World)(h:(∀cs,a≠.agg cs)/\a≠.nilIface):(eqGuard op t x y a b).run P w=.ok () w:=by
 unfold eqGuard;cases op<;>simp
 all_goals (cases a<;>first|rfl | (simp at h))
theorem Rb {P:Program}{op:BinOp}{t:Nat}{x y:Value}{K:Value->Prop}(h:lM P op t x y K):(∀cs,x≠.agg cs)/\x≠.nilIface:=by
 unfold lM at h;split at h<;>first|exact absurd h id | (constructor<;>simp)
theorem IZ {P:Program}{op:BinOp}{t:Nat}{x y:Value}{K:Value->Prop}(h:lu P op t x y K):∀cs,x≠.agg cs:=by
 unfold lu at h;split at h
 case h_4=>rcases h.1 with rfl|⟨t',u,rfl⟩<;>simp
 all_goals first|exact absurd h id|simp
theorem Iu {P:Program}{op:BinOp}{t:Nat}{x:Operand}{c:Value}{a b:Value}(w:World)(h:∀cs,a≠.agg cs):(eqGuard op t x (.const c) a b).run P w=.ok () w:=by
 unfold eqGuard;cases op<;>simp
 all_goals (cases a<;>first|rfl|exact absurd rfl (h _) | (cases b<;>simp))
theorem ON {y:Operand}(h:uM y=true):∃c,y=.const c:=by
 unfold uM at h;split at h<;>first|exact⟨_,rfl⟩|cases h
theorem Gg {P:Program}{s f:Nat}{K:Field->Prop}(h:nb P s f K):∃fs fd,P.underlying s=some (.struct fs)/\fs[f]?=some fd/\K fd:=by
 unfold nb at h;split at h
 ·split at h
  ·exact⟨_,_,by assumption,by assumption,h⟩
  ·exact h.elim
 ·exact h.elim
theorem OZ {P:Program}{t:Nat}(h:P.cellsOf t≠0):(P.info? t).isSome=true:=by
 unfold Program.cellsOf at h;cases hi:P.info? t with
 | none=>rw[hi]at h;simp at h
 | some i=>rfl
theorem GM {ρ:Env}{a:Act}(hf:∀x v,ev ρ x=some v->a.eval x=v){o:Option Operand}{v:Option Value}(h:tT ρ o=some v):o.map a.eval=v:=by
 cases o with
 | none=>simp[tT]at h;simp[h]
 | some o=>
  simp only[tT,nV]at h;obtain⟨u,b,rfl⟩:=h;simp[hf _ _ b]
theorem Vd {P:Program}{t:Nat}{d:TypeDesc}{cs:Array Value}{off:Nat}{v:Value}{w:World}(hd:P.underlying t=some d)(hag:V4 d=false)(h:cs.toList[off]?=some v):(part t cs off).run P w=.ok v w:=by
 have a:cs[off]?=some v:=by simpa using h
 simp[part,KB hd,hag,a]
theorem AX {P:Program}{xs ys:Array Value}(d:Nat):∀(fs:List Field) (b:Bool),oZ P xs.toList ys.toList fs=some b->∀w,(Op.eqFields (d+1) xs ys fs).run P w=.ok b w
 | [],b,h,w=>by simp[oZ]at h;subst h;simp[Op.eqFields]
 | f::fs,b,h,w=>by
  simp only[oZ]at h;cases hn:f.name == "_"
  ·rw[hn]at h;simp only[cond_false]at h;have hne:f.name ≠ "_" := by simpa using hn
   split at h
   ·rename_i k0 k a k' b' r hu hx hy hr;split at h
    case isFalse=>cases h
    rename_i e;subst e;simp only[Option.some.injEq]at h;subst h;have ih:=AX (d:=d) fs r hr w;simp only[Op.eqFields,hne,ne_eq,not_false_eq_true,zR,Sem.run_bind,Vd hu rfl hx,Vd hu rfl hy,Result.andThen_ok,run_equalIn_int w d f.type k k0 a b' hu];cases hab:a==b'<;>simp[ih]
   ·rename_i a b' r hu hx hy hr;simp only[Option.some.injEq]at h;subst h;have ih:=AX (d:=d) fs r hr w;simp only[Op.eqFields,hne,ne_eq,not_false_eq_true,zR,Sem.run_bind,Vd hu rfl hx,Vd hu rfl hy,Result.andThen_ok,run_equalIn_bool' w d f.type a b' hu];cases hab:a==b'<;>simp[ih]
   ·cases h
  ·rw[hn]at h;cases h
theorem y9 {P:Program}{e:TypeId}(hC:P.cellsOf e=1){xs ys:Array Value}(d:Nat):∀(is:List Nat) (b:Bool),oc P e xs.toList ys.toList is=some b->∀w,(Op.eqItems (d+1) e (P.cellsOf e) xs ys is).run P w=.ok b w
 | [],b,h,w=>by simp[oc]at h;subst h;simp[Op.eqItems]
 | i::is,b,h,w=>by
  simp only[oc]at h;split at h
  ·rename_i k0 k a k' b' r hu hx hy hr;split at h
   case isFalse=>cases h
   rename_i e';subst e';simp only[Option.some.injEq]at h;subst h;have ih:=y9 hC d is r hr w;simp only[Op.eqItems,hC,ns,Sem.run_bind,Vd hu rfl hx,Vd hu rfl hy,Result.andThen_ok,run_equalIn_int w d e k k0 a b' hu];rw[hC]at ih;cases hab:a==b'<;>simp[ih]
  ·rename_i t0 p r hu hx hy hr;simp only[Option.some.injEq]at h;subst h;have ih:=y9 hC d is r hr w;simp only[Op.eqItems,hC,ns,Sem.run_bind,Vd hu rfl hx,Vd hu rfl hy,Result.andThen_ok,Fc hu p d w];rw[hC]at ih;cases hab:p.isNone<;>simp[ih]
  ·cases h
theorem Ip {P:Program}{op:BinOp}{t:Nat}{xs ys:Array Value}{K:Value->Prop}(h:m5 P op t xs.toList ys.toList K)(x y:Operand)(w:World) :
 ∃v,(do eqGuard op t x y (.agg xs) (.agg ys);binOp op t (.agg xs) (.agg ys):Sem Value).run P w=.ok v w/\K v:=by
 have fin:∀b:Bool,(Op.equalIn 10000 t (.agg xs) (.agg ys)).run P w=.ok b w->P.eqGuardType P.depth t=false->mD op b K →
  ∃v,(do eqGuard op t x y (.agg xs) (.agg ys);binOp op t (.agg xs) (.agg ys):Sem Value).run P w=.ok v w/\K v:=by
  intro b a hgt h;have j:=run_eqGuard_agg (P:=P) w op t x y xs ys hgt;cases op<;>simp only[mD]at h
  ·exact⟨_,by simp only[Sem.run_bind,j,Result.andThen_ok,run_eql_struct,a],h⟩
  ·exact⟨_,by simp only[Sem.run_bind,j,Result.andThen_ok,run_neq_struct,a],h⟩
 unfold m5 at h;split at h
 case h_1 fs hu=>
  rw[Wu]at h;obtain⟨d,h⟩:=h;simp only[zF,l6]at d;split at h
  case h_2=>exact h.elim
  rename_i b hb;have g:P.fieldsOf t=fs:=by simp[Program.fieldsOf,hu]
  have a:(Op.equalIn 10000 t (.agg xs) (.agg ys)).run P w=.ok b w:=by
   have:=run_equalIn_struct (P:=P) w 9999 t xs ys (by rw[g];exact hu) d.1;rw[g]at this;exact this.trans (AX 9998 fs.toList b hb w)
  exact fin b a d.2 h
 case h_2 n e hu=>
  rw[Wu]at h;obtain⟨d,h⟩:=h;simp only[zF,l6,zT]at d;split at h
  case h_2=>exact h.elim
  rename_i b hb;obtain⟨i,m⟩:=pq.1 d.2.1;exact fin b ((run_equalIn_array (P:=P) w 9999 xs ys hu m).trans (y9 d.2.2 9998 _ b hb w)) d.1 h
 case h_3=>exact h.elim
theorem Gn {P:Program}{ρ:Env}{K:Value->Prop}{a:Act}{w:World}(hf:∀x v,ev ρ x=some v->a.eval x=v)(o:Oper)(hk:qK P o.op ρ w.heap K) :
 ∃v,(execOp a.eval o).run P w=.ok (.value v) w/\K v:=by
 obtain⟨dst,op,ty,pos,W,U⟩:=o;simp only at hk;have g:∀{s:Sem Value},(∃v,s.run P w=.ok v w/\K v)->∃v,(do pure (Next.value (←s)):Sem Next).run P w=.ok (.value v) w/\K v:=by
  rintro s ⟨v,j,e⟩;exact⟨v,by simp[j],e⟩
 unfold qK at hk;split at hk
 case h_1 x=>
  obtain⟨v,j,e⟩:=Wr hk;exact⟨v,by simp[execOp,hf _ _ j],e⟩
 case h_2 x=>
  obtain⟨v,j,e⟩:=Wr hk;exact⟨v,by simp[execOp,hf _ _ j],e⟩
 case h_3 c x y=>
  obtain⟨v,j,e⟩:=Wr hk;split at e
  ·obtain⟨u,A,e⟩:=Wr e;exact⟨u,by simp[execOp,hf _ _ j,asBool,hf _ _ A],e⟩
  ·obtain⟨u,A,e⟩:=Wr e;exact⟨u,by simp[execOp,hf _ _ j,asBool,hf _ _ A],e⟩
  ·exact e.elim
 case h_4 t x=>
  obtain⟨v,j,e⟩:=Wr hk;simp only[execOp,hf _ _ j];apply g;split at e
  case h_1 L c F=>
   rw[Wu]at e;obtain⟨d,hd,H⟩:=Cv F;obtain⟨x,p,e⟩:=G6 e.2;exact⟨_,by simp only[Instr.loadAt,Instr.sureAddr,loadVar,Sem.run_bind,Sem.run_pure,Result.andThen_ok,KB hd,H];simpa using BC p,e⟩
  case h_2 L cs F=>
   rw[Wu,Wu]at e;obtain⟨r,z,e⟩:=e;obtain⟨d,hd,H⟩:=CL F;obtain⟨vs,hl,e,X⟩:=GZ (P:=P) e;have V:P.cellsOf t=cs.length:=by simpa using r
   refine⟨_,?_,e⟩;simp only[Instr.loadAt,Instr.sureAddr,loadVar,Sem.run_bind,Sem.run_pure,Result.andThen_ok,KB hd,H,zR,QE z,loadCells,V,X];simp
  ·exact e.elim
 case h_5 x=>
  obtain⟨v,j,e⟩:=Wr hk;simp only[execOp,hf _ _ j];split at e
  ·obtain⟨L,rfl,e⟩:=e;exact⟨_,by simp,e⟩
  ·exact⟨_,by simp,e⟩
  ·exact e.elim
 case h_6 op t x y yt=>
  obtain⟨D,p,hk⟩:=Wr hk;obtain⟨vy,hy,hk⟩:=Wr hk;simp only[execOp,hf _ _ p,hf _ _ hy];apply g;unfold vO at hk;cases hn:uM y
  ·rw[hn]at hk;simp only[cond_false]at hk;split at hk
   ·exact Ip hk x y w
   obtain⟨v,j,e⟩:=Pe hk w;exact⟨v,by simp[Oc w (Rb hk),j],e⟩
  ·rw[hn]at hk;simp only[cond_true]at hk;obtain⟨v,j,e⟩:=Ro hk w;obtain⟨c,hc⟩:=ON hn;have hg:=Iu (P:=P) (op:=op) (t:=t) (x:=x) (c:=c) (b:=vy) w (IZ hk);exact⟨v,by rw[hc];simp[hg,j],e⟩
 case h_7 op ty' x=>
  obtain⟨D,p,hk⟩:=Wr hk;simp only[execOp,hf _ _ p];apply g;split at hk
  ·exact⟨_,by simp[Op.unary],hk⟩
  ·exact⟨_,by simp[Op.unary,Op.intArith],hk⟩
  ·exact hk.elim
 case h_8 s d x=>
  obtain⟨D,p,hk⟩:=Wr hk;simp only[execOp,hf _ _ p];apply g;split at hk
  ·rename_i r z;exact⟨_,by simp[convert,run_underlying r,run_underlying z,Conv.intToInt],hk⟩
  ·rename_i r z;exact⟨_,by simp[convert,run_underlying r,run_underlying z],hk⟩
  ·rename_i r z;split at hk
   ·rename_i A;obtain⟨b,X,e⟩:=NQ (P:=P) hk;exact⟨_,by simpa[convert,run_underlying r,run_underlying z,run_underlying A]using X,e⟩
   ·exact hk.elim
  ·exact hk.elim
 case h_9 s x f=>
  obtain⟨D,p,hk⟩:=Wr hk;obtain⟨Z,fd,F,G,hk⟩:=Gg hk;simp only[execOp,hf _ _ p];apply g;split at hk
  ·rename_i L;rw[Wu]at hk;have M:P.cellsOf fd.type≠0:=by simpa using hk.1
   refine⟨_,?_,hk.2⟩;simp only[Instr.fieldAt,Sem.run_bind,run_underlying F,Result.andThen_ok,G,Instr.sureAddr,Sem.run_pure,fieldPlace,QE (OZ M),M,zz]
  ·exact hk.elim
 case h_10 s x f=>
  obtain⟨D,p,hk⟩:=Wr hk;obtain⟨Z,fd,F,G,hk⟩:=Gg hk;simp only[execOp,hf _ _ p];apply g;split at hk
  ·rename_i cs;obtain⟨v,j,e⟩:=PS (w:=w) hk;refine⟨v,?_,e⟩;simp only[Instr.field,Sem.run_bind,run_underlying F,Result.andThen_ok,G,asAgg,Sem.run_pure,j]
  ·exact hk.elim
 case h_11 t x i=>
  obtain⟨D,p,hk⟩:=Wr hk;obtain⟨vi,E,hk⟩:=Wr hk;simp only[execOp,hf _ _ p,hf _ _ E];apply g;split at hk
  ·have A:=(by assumption:P.underlying t=some _);rw[Wu]at hk;obtain⟨r,L,rfl,z,Q,e⟩:=hk;refine⟨_,?_,e⟩;simp[Instr.indexAt,asIntOf,run_underlying A,QE r,z,Q]
  ·have A:=(by assumption:P.underlying t=some _);rw[Wu]at hk;obtain⟨r,z,Q,e⟩:=hk;refine⟨_,?_,e⟩;simp[Instr.indexAt,asIntOf,run_underlying A,QE r,z,Q,Instr.sureAddr]
  ·exact hk.elim
 case h_12 t x i=>
  obtain⟨D,p,hk⟩:=Wr hk;obtain⟨vi,E,hk⟩:=Wr hk;simp only[execOp,hf _ _ p,hf _ _ E];apply g;split at hk
  ·have A:=(by assumption:P.underlying t=some _);obtain⟨b,r,z,e⟩:=hk;refine⟨_,?_,e⟩;simp[Instr.index,asIntOf,run_underlying A,r,z]
  ·exact hk.elim
 case h_13 t x i ok=>
  obtain⟨D,p,hk⟩:=Wr hk;obtain⟨vi,E,hk⟩:=Wr hk;simp only[execOp,hf _ _ p,hf _ _ E];exact g (Is hk)
 case h_14 t i=>
  obtain⟨D,p,hk⟩:=Wr hk;simp only[execOp,hf _ _ p];apply g;split at hk
  ·obtain⟨v,j,e⟩:=Wr hk;have R:=j;rw[vu]at R;exact⟨v,by simp[Instr.extract,R],e⟩
  ·exact hk.elim
 case h_15 fn x y=>
  split at hk
  ·rename_i va vb r z;have e1:=ZF hf r;have e2:=ZF hf z;refine⟨_,?_,hk⟩;have J:x.map a.eval=va.toArray:=by apply Array.ext';simpa using e1
   have Y:y.map a.eval=vb.toArray:=by apply Array.ext';simpa using e2
   simp[execOp,Instr.makeFunc,J,Y]
  ·exact hk.elim
 case h_16 t ps=>
  split at hk
  ·rename_i vs r;have e1:=VD hf r;have J:ps.map (λ(i,x)=>(i,a.eval x))=vs.toArray:=by apply Array.ext';simpa using e1
   simp only[execOp];apply g;rw[J];exact LC (by simpa using hk)
  ·exact hk.elim
 case h_17 t x lo E mx=>
  obtain⟨D,p,hk⟩:=Wr hk;simp only[execOp,hf _ _ p];apply g;split at hk
  ·rename_i l h m r z Q;rw[GM hf r,GM hf z,GM hf Q];exact MX hk
  ·exact hk.elim
 case h_18 t x=>
  obtain⟨D,p,hk⟩:=Wr hk;rw[Wu]at hk;simp only[execOp,hf _ _ p];exact⟨_,by simp[run_makeInterface w t D hk.1],hk.2⟩
 case h_19 x xt t=>
  obtain⟨D,p,hk⟩:=Wr hk;simp only[execOp,hf _ _ p];apply g;split at hk
  case h_2=>exact hk.elim
  rename_i Z ti cs A E F;split at hk
  case h_2=>exact hk.elim
  rename_i zs hz;obtain⟨vs,b,j,e⟩:=hk.out;exact⟨_,ID A E (by simpa using hz) j w,e⟩
 case h_20 c=>
  obtain⟨S,C,N⟩:=c;simp only at hk;split at hk
  ·rename_i x t ha ht;have B:=ZF hf ha;have e1:C.map a.eval = #[x]:=by apply Array.ext';simpa using B
   have e2:N = #[t]:=by apply Array.ext';simpa using ht
   subst e2;obtain⟨v,j,e⟩:=O2 (ty:=ty) hk;refine⟨v,?_,e⟩;simp[execOp,resolve,e1,invoke,builtin,j]
  ·rename_i L l n t ha ht;have B:=ZF hf ha;have e1:C.map a.eval = #[.slice L l n]:=by apply Array.ext';simpa using B
   have e2:N = #[t]:=by apply Array.ext';simpa using ht
   subst e2;split at hk
   ·rename_i A;refine⟨_,?_,hk⟩;simp[execOp,resolve,e1,invoke,builtin,Builtin.cap_,run_underlying A,goInt]
   ·exact hk.elim
  ·rename_i x xs ha;have B:=ZF hf ha;have e1:C.map a.eval=(x::xs).toArray:=by apply Array.ext';simpa using B
   obtain⟨v,j,e⟩:=GK (P:=P) (w:=w) hk;refine⟨v,?_,e⟩;simp only[zR]at j;simp[execOp,resolve,e1,invoke,builtin,Builtin.max_,j]
  ·rename_i x xs ha;have B:=ZF hf ha;have e1:C.map a.eval=(x::xs).toArray:=by apply Array.ext';simpa using B
   obtain⟨v,j,e⟩:=GK (P:=P) (w:=w) hk;refine⟨v,?_,e⟩;simp only[zc,zz]at j;simp[execOp,resolve,e1,invoke,builtin,Builtin.min_,j]
  ·exact hk.elim
 ·exact hk.elim
def nc (P:Program):List TypeId->Option (List SK)
 | []=>some []
 | t::ts=>match jM P t,nc P ts with|some s,some ss=>some (s::ss)|_,_=>none
def VR (P:Program)(f:Nat):Bool:=
 match P.funcs[f]? with
 | some fn=>!(fn.name == "runtime.NumGoroutine") && fn.body.isSome
 | none=>false
def td (P:Program)(f:Nat)(args:List Value)(h:Hp)(K:aO):Prop:=
 ∀w:World,w.heap=h->∃b w',(callFunc f args.toArray).run P w=.ok (.value (.bool b)) w'/\W7 w w'/\K b w'.heap
def Av (P:Program)(f:Nat)(args:List Value)(h:Hp)(K:Value->Hp->Prop):Prop:=
 match P.funcs[f]? with
 | some fn=>match nc P fn.resultTypes.toList with
  | some rs=>match VR P f with
   | true=>Wc P f args.toArray rs h (lam (eR rs) λvs h'=>K (pack rs vs) h')
   | false=>match rs with
    | [.one .b]=>td P f args h λb h'=>K (.bool b) h'
    | _=>False
  | none=>False
 | none=>False
def Bw (P:Program)(v:Value)(name:String)(args:List Value)(ty:TypeId)(h:Hp)(K:Value->Hp->Prop):Prop:=
 match (match P.underlying ty with|some (.tuple ts)=>nc P ts.toList|_=>nc P [ty])with
 | some rs=>iM P v name args rs h (lam (eR rs) λvs h'=>K (pack rs vs) h')
 | none=>False
def A5 (P:Program)(fv:Fv):Prop:=VR P fv.f=true
def VF (P:Program)(fv:Fv)(args:List Value)(rs:List SK)(h:Hp)(R:eO (eR rs)):Prop:=
 A5 P fv/\E9 P fv args rs h R
def Aa (P:Program)(fv:Fv)(args:List Value)(ty:TypeId)(h:Hp)(K:Value->Hp->Prop):Prop:=
 match (match P.underlying ty with|some (.tuple ts)=>nc P ts.toList|_=>nc P [ty])with
 | some rs=>VF P fv args rs h (lam (eR rs) λvs h'=>K (pack rs vs) h')
 | none=>False
def AQ (a:Addr)(vs:List Value)(h:Hp)(K:aP):Prop:=
 match vs with
 | [v]=>dW a v h K
 | vs=>np a h vs 0 K
def rk (P:Program)(t:TypeId)(K:IntKind->CK->Prop):Prop:=
 match P.underlying t with
 | some (.map kt et)=>match P.underlying kt,oB P et with
  | some (.int k),some (.one c)=>K k c
  | _,_=>False
 | _=>False
def BE (P:Program)(t:TypeId)(len:Nat)(ps:List (Nat×Value))(K:TypeId->List Value->Prop):Prop:=
 match P.underlying t with
 | some (.slice e)=>match P.info? e with
  | some te=>match te.zero with
   | some z=>match len,ps with
    | 0,[]=>K e []
    | 0,_::_=>False
    | len+1,ps=>fN (Nat.ble ((len+1)*te.size) 16777216&&Nat.blt 0 ((len+1)*te.size)&&z.cells.size==te.size)
     (match ru (λi=>some (i*te.size,te.size)) (List.replicate (len+1) z.cells.toList).flatten ps with
     | some cs=>K e cs
     | none=>False)
   | none=>False
  | none=>False
 | _=>False
def eK (P:Program)(o:Op)(ty:TypeId)(ρ:Env)(h:Hp)(K:Value->Hp->Prop):Prop:=
 match o with
 | .store t a x=>wv (ev ρ a) λva=>wv (ev ρ x) λvx=>match va with
  | .pointer (some a)=>bif vj P t then fN ((P.info? t).isSome&&P.cellsOf t==1) (iP vx/\dW a vx h λh'=>K undef h')
   else fN ((P.info? t).isSome&&vx.cells.size==P.cellsOf t) (xL vx.cells.toList (AQ a vx.cells.toList h λh'=>K undef h'))
  | _=>False
 | .alloc e=>match P.info? e with
  | some te=>match te.zero with
   | some z=>Nw (.cells z.cells e (0,0)) h λa h'=>K (.pointer (some a)) h'
   | none=>False
  | none=>False
 | .box e x=>wv (ev ρ x) λv=>bif vj P e then iP v/\Nw (.cells #[v] e (0,0)) h λa h'=>K (.pointer (some a)) h' else Nw (.cells v.cells e (0,0)) h λa h'=>K (.pointer (some a)) h'
 | .buildSlice t len ps=>match Hl ρ ps.toList with
  | some vs=>BE P t len vs λe cs=>Nw (.cells cs.toArray e (0,0)) h λa h'=>K (.slice (some a) len len) h'
  | none=>False
 | .makeMap t r=>match r with
  | none=>Nw (.map #[] 0) h λa h'=>K (.map (some a.block)) h'
  | some _=>False
 | .makeSlice t l c=>wv (ev ρ l) λvl=>wv (ev ρ c) λvc=>match P.underlying t,vl,vc with
  | some (.slice e),.int .i64 n,.int .i64 m=>match P.info? e with
   | some te=>match te.zero with
    | some z=>fN (z.cells.size==te.size&&Nat.blt 0 te.size) (Mk n m te.bytes e z.cells.toList h λs h'=>K (.slice s.a s.len s.cap) h')
    | none=>False
   | none=>False
  | _,_,_=>False
 | .range t x=>wv (ev ρ x) λv=>rk P t λki c=>match v with
  | .map m=>nA ki c m h λa h'=>K (.pointer (some a)) h'
  | _=>False
 | .mapUpdate t m k x=>wv (ev ρ m) λvm=>wv (ev ρ k) λvk=>wv (ev ρ x) λvx=>rk P t λki c=>match vm,vk with
  | .map m,.int k' n=>if ki=k' then mM c vx λx=>ke ki c m n x h λh'=>K undef h' else False
  | _,_=>False
 | .call c=>match c.callee,pn ρ c.args.toList,c.argTypes.toList with
  | .value (.func f),some args,_=>Av P f args h K
  | .value g,some args,_=>wv (ev ρ g) λvg=>mM .fn vg λfv=>Aa P fv args ty h K
  | .invoke r name,some args,_=>wv (ev ρ r) λvr=>Bw P vr name args ty h K
  | .builtin .append,some [.slice sa sn sc,.slice xa xn xc],[t,t']=>match P.underlying t with
   | some (.slice e)=>match P.info? e with
    | some te=>match te.zero with
     | some z=>fN (Nat.beq t t'&&z.cells.size==te.size&&Nat.blt 0 te.size) (App ⟨sa,sn,sc⟩ te.size te.bytes e z.cells.toList ⟨xa,xn,xc⟩ h λs h'=>K (.slice s.a s.len s.cap) h')
     | none=>False
    | none=>False
   | _=>False
  | .builtin .delete,some [.map m,.int k' n],t::_=>rk P t λki c=>if ki=k' then ld ki c m n h λh'=>K (.tuple #[]) h' else False
  | .builtin .append,some [.slice sa sn sc,.int .i64 n],[t,t']=>match P.underlying t,P.underlying t' with
   | some (.slice e),some (.int _)=>match P.info? e with
    | some te=>match te.zero with
     | some z=>fN (z.cells.size==te.size&&Nat.blt 0 te.size) (sU ⟨sa,sn,sc⟩ te.size te.bytes e z.cells.toList n h λs h'=>K (.slice s.a s.len s.cap) h')
     | none=>False
    | none=>False
   | _,_=>False
  | .builtin .copy,some [.slice da dn dc,.slice xa xn xc],t::_=>match P.underlying t with
   | some (.slice e)=>match P.info? e with
    | some te=>sY ⟨da,dn,dc⟩ te.size ⟨xa,xn,xc⟩ h λz h'=>K (.int .i64 z) h'
    | none=>False
   | _=>False
  | .builtin .clear,some [.slice sa sn sc],[t]=>match P.underlying t with
   | some (.slice e)=>match P.info? e with
    | some te=>match te.zero with
     | some z=>fN (z.cells.size==te.size&&Nat.blt 0 te.size) (xG ⟨sa,sn,sc⟩ z.cells.toList h λh'=>K (.tuple #[]) h')
     | none=>False
    | none=>False
   | _=>False
  | _,_,_=>False
 | _=>False
def q9 (P:Program)(o:Op)(ty:TypeId)(ρ:Env)(h:Hp)(K:Value->Hp->Prop):Prop:=
 bif sq o then qK P o ρ h (λv=>K v h)else eK P o ty ρ h K
theorem Dv:∀{vs:List Value} {A:Prop},xL vs A->A/\∀v∈vs,dQ v=true
 | [],A,h=>⟨h,by simp⟩
 | v::vs,A,h=>by
  have h1:dQ v=true/\xL vs A:=by cases v<;>first|exact h.elim|exact⟨rfl,h⟩
  obtain⟨d,b⟩:=Dv h1.2;exact⟨d,λu a=>by
   rcases zW.1 a with rfl|a
   ·exact h1.1
   ·exact b u a⟩
theorem W7.refl (w:World):W7 w w:=⟨rfl,rfl,rfl,zD _⟩
theorem W7.trans {a b c:World}(h:W7 a b)(k:W7 b c):W7 a c:=⟨k.1.trans h.1,k.2.1.trans h.2.1,k.2.2.1.trans h.2.2.1,zh h.2.2.2 k.2.2.2⟩
theorem KO (h:Hp)(a:Addr)(v:Value):(jI h a v).size=h.size:=by simp[jI]
theorem FA {P:Program}{w:World}{a:Addr}{v:Value}(ho:dQ v=true)(h1:(cell w.heap a).isSome=true)(h2:m6 w.heap a=false):(store a v).run P w=.ok () (w.setCell a v):=by
 obtain⟨u,d⟩:=pq.1 h1;have e:w.cell? a=some u:=d;have b:w.frozen? a=false:=h2;cases v<;>simp[dQ]at ho<;>simp[store,Sem.run,e,b]
theorem Hm {P:Program}:∀{vs:List Value} {w:World} {a:Addr} {i:Nat} {K:aP},(∀v∈vs,dQ v=true)->np a w.heap vs i K →
 ∃w',(storeCells a vs i).run P w=.ok () w'/\W7 w w'/\K w'.heap
 | [],w,a,i,K,_,h=>⟨w,by simp[storeCells],.refl _,h⟩
 | v::vs,w,a,i,K,ho,h=>by
  obtain⟨h1,h2,h3⟩:=h;have e:=FA (P:=P) (ho v aA) h1 h2;obtain⟨w',j,m,d⟩:=Hm (P:=P) (w:=w.setCell (a.add i) v) (λu g=>ho u (by simp[g])) h3;refine⟨w',?_,W7.trans (b:=w.setCell (a.add i) v) ⟨rfl,rfl,rfl,Nat.le_of_eq (KO w.heap (a.add i) v).symm⟩ m,d⟩;simp only[storeCells,Sem.run_bind,e,Result.andThen_ok,j]
theorem OK {P:Program}{vs:List Value}{w:World}{a:Addr}{K:aP}(ho:∀v∈vs,dQ v=true)(h:AQ a vs w.heap K) :
 ∃w',(storeCells a vs).run P w=.ok () w'/\W7 w w'/\K w'.heap:=by
 refine Hm ho ?_;unfold AQ at h;split at h
 ·simpa[np,Addr.add_zero']using h
 ·exact h
def QI (P:Program)(s:Sem Next)(w:World)(K:Value->Hp->Prop):Prop:=
 (∃v w',s.run P w=.ok (.value v) w'/\W7 w w'/\K v w'.heap) ∨
 (∃w',s.run P w=.ok .skip w'/\W7 w w'/\K undef w'.heap) ∨
 (∃f args rs R,s.run P w=.ok (.enter f args) w/\Wc P f args rs w.heap R/\∀vs h',Sat (eR rs) R vs h'->K (pack rs vs) h')
theorem QI.upon {P:Program}{o:Oper}{a:Act}{w:World}{K:Value->Hp->Prop}{next:Act->World->Prop}{Q:Exit->Act->World->Prop}
 (h:QI P (execOp a.eval o) w K) (hn:∀v w',W7 w w'->K v w'.heap->next (a.put o.dst v) w'):o.wp P a w next Q:=by
 unfold Oper.wp;rcases h with⟨v,w',hr,b,hK⟩|⟨w',hr,b,hK⟩|⟨f,args,rs,R,hr,hc,hK⟩
 ·rw[hr];exact hn _ _ b hK
 ·rw[hr];exact hn _ _ b hK
 ·rw[hr];refine(hc w rfl).mono λe w' ⟨b,vs,d,g⟩=>?_;subst d;exact hn _ _ b (hK _ _ g)
theorem Vg {P:Program}{f:Nat}(h:VR P f=true)(args:Array Value)(w:World):(callFunc f args).run P w=.ok (.enter f args) w:=by
 unfold VR at h;split at h
 ·rename_i fn hf;simp only[zF,l6,mj]at h;obtain⟨b,a⟩:=h;obtain⟨c,d⟩:=pq.1 a;simp[callFunc,hf,b,d]
 ·cases h
theorem Ij {P:Program}{f:Nat}{args:List Value}{w:World}{K:Value->Hp->Prop}(h:Av P f args w.heap K):QI P (callFunc f args.toArray) w K:=by
 unfold Av at h;split at h
 ·split at h
  ·rename_i rs hrs;split at h
   ·rename_i hc;exact .inr (.inr ⟨f,_,rs,_,Vg hc _ _,h,λvs j e=>VB e⟩)
   ·split at h
    ·obtain⟨b,a,g,i,d⟩:=h w rfl;exact .inl ⟨_,a,g,i,d⟩
    ·exact h.elim
  ·exact h.elim
 ·exact h.elim
theorem MU {P:Program}{fv:Fv}{args:List Value}{ty:Nat}{w:World}{K:Value->Hp->Prop}(h:Aa P fv args ty w.heap K) :
 QI P (callFunc fv.f (fv.first++args.toArray++fv.captured)) w K:=by
 unfold Aa at h;split at h
 ·rename_i rs _;exact .inr (.inr ⟨_,_,rs,_,Vg h.1 _ _,h.2,λvs b a=>VB a⟩)
 ·exact h.elim
theorem RJ {P:Program}{v:Value}{name:String}{args:List Value}{ty:Nat}{w:World}{K:Value->Hp->Prop}(h:Bw P v name args ty w.heap K) :
 QI P (callMethod v name args.toArray) w K:=by
 unfold Bw at h;split at h
 ·rename_i rs _;obtain⟨t,u,f,rfl,d,a,h⟩:=h;refine .inr (.inr ⟨f,_,rs,_,?_,h,λvs e b=>VB b⟩);simp only[callMethod,Sem.run_bind,run_program,Result.andThen_ok,d,a];simp
 ·exact h.elim
theorem G0 {P:Program}{t:Nat}{K:IntKind->CK->Prop}(h:rk P t K):∃kt et k c,P.underlying t=some (.map kt et)/\P.underlying kt=some (.int k)/\K k c:=by
 unfold rk at h;split at h
 ·split at h
  ·exact⟨_,_,_,_,by assumption,by assumption,h⟩
  ·exact h.elim
 ·exact h.elim
theorem V3 (w:World)(o:Obj):W7 w {w with heap:=w.heap.push o}:=⟨rfl,rfl,rfl,by simp⟩
theorem UO (h:Hp)(r:Nat)(o:Obj):Qm h (h.setIfInBounds r o) r:=⟨by simp,λb a=>by rw[yk (Ne.symm a)]⟩
theorem Ds {es:List MapEntry}{k:IntKind}{c:CK}:∀(l:List (Int×c.T)) (es:List MapEntry) (j:Nat) (n:Int) (x:c.T),
 es.map (λe=>(e.key,e.val))=l.map (λx=>(Value.int k x.1,c.v x.2))->(l.map (·.1)).Nodup->l.findIdx? (λx=>x.1==n)=some j →
 (es.modify j λe=>{e with key:=.int k n,val:=c.v x}).map (λe=>(e.key,e.val))=(l.map λy=>if y.1==n then(n,x)else y).map (λx=>(Value.int k x.1,c.v x.2))
 | [],es,j,n,x,he,hn,hj=>by simp at hj
 | y::l,[],j,n,x,he,hn,hj=>by simp at he
 | y::l,e::es,j,n,x,he,hn,hj=>by
  simp only[zS,List.cons.injEq]at he;simp only[zS,zr]at hn;simp only[vf]at hj;cases hy:y.1==n
  ·rw[hy]at hj;simp only[zc,zz,nV]at hj;obtain⟨j',hj',rfl⟩:=hj;have:=Ds (es:=es) l es j' n x he.2 hn.2 hj';simp only[List.modify_succ_cons,zS,this,hy,he.1];simp
  ·rw[hy]at hj;simp at hj;subst hj;have a:y.1=n:=by simpa using hy
   simp only[List.modify_zero_cons,zS,hy,zR,List.cons.injEq,sS,he.2]
   congr 1
   have:∀z∈l,(z.1==n)=false:=by
    intro z hz;have:z.1≠y.1:=λe=>hn.1 (by rw[←e];exact xN hz);simpa[a]using this
   have e:l=l.map λz=>if z.1==n then(n,x)else z:=by
    conv=>lhs;rw[←uk l]
    apply j5;intro z hz;simp[this z hz]
   exact e
theorem IK {α:Type}{l:List (Int×α)}{n:Int}{j:Nat}(h:l.findIdx? (λx=>x.1==n)=some j):l.any (λx=>x.1==n)=true:=by
 obtain⟨x,a,rfl⟩:=V7 h;rw[kb];exact⟨x,zG a,by simp⟩
theorem H5 {α:Type}{l:List (Int×α)}{n:Int}(h:l.findIdx? (λx=>x.1==n)=none):l.any (λx=>x.1==n)=false:=by
 rw[uj]at h;rw[mA];simpa using h
theorem gP {α:Type}{l:List (Int×α)}{n:Int}{x:α}(hn:(l.map (·.1)).Nodup):((dB l n x).map (·.1)).Nodup:=by
 unfold dB;split
 ·have:(l.map λy=>if y.1==n then(n,x)else y).map (·.1)=l.map (·.1):=by
   rw[k6];apply j5;intro y _;simp only[Function.comp];split
   ·rename_i h;simp at h;exact h.symm
   ·rfl
  rwa [this]
 ·rename_i h;rw[jY,nK];refine⟨hn,by simp,?_⟩;intro a ha b hb;simp at hb;subst hb;rintro rfl;obtain⟨y,d,rfl⟩:=zE.1 ha;exact h (kb.2 ⟨y,d,by simp⟩)
theorem Rc {P:Program}{t kt et:Nat}{k:IntKind}{c:CK}(hu:P.underlying t=some (.map kt et))(hk:P.underlying kt=some (.int k)){r:Nat}{l:List (Int×c.T)}{n:Int}{x:c.T}{w:World}
 (hm:dH w.heap r k c l):∃w',(Instr.mapUpdate t (.map (some r)) (.int k n) (c.v x)).run P w=.ok () w'/\W7 w w'/\Qm w.heap w'.heap r/\dH w'.heap r k c (dB l n x):=by
 obtain⟨es,d,s,i,E,G,C⟩:=hm;have A:r<w.heap.size:=(zt.1 s).1;have g:∀o,(w.heap.setIfInBounds r o)[r]?=some o:=λo=>by simp[A]
 cases hf:l.findIdx? (λx=>x.1==n)with
 | some j=>
  obtain⟨y,F,D⟩:=V7 hf;have K:j<l.length:=(cW.1 F).1;have z:es.toList.length=l.length:=by simpa using congrArg List.length i
  have p:j<es.size:=by simp at z;omega
  have u:es[j].key=.int k n:=by
   have:=congrArg (λl=>l[j]?) i;simp only[zd,F,zX]at this;rw[vu,Array.getElem?_eq_getElem p]at this;simp at this;rw[this.1,D]
  refine⟨{w with heap:=w.heap.setIfInBounds r (.map (es.modify j λe=>{e with key:=.int k n,val:=c.v x}) d)},?_,⟨rfl,rfl,rfl,by simp⟩,UO _ _ _,?_⟩
  ·simp only[Instr.mapUpdate,Sem.run_bind,run_underlying hu,Result.andThen_ok,Qw hk,getObj,Sem.run,s,Kf hk i,hf];simp[Array.getElem?_eq_getElem p,u,Instr.keyThatStays,Instr.sameBits,setObj,Sem.run,s]
  ·refine⟨_,d,g _,?_,gP E,?_,?_⟩
   ·rw[BV,Ds (es:=[]) l es.toList j n x i E hf];simp[dB,IK hf]
   ·have:(es.modify j λe=>{e with key:=.int k n,val:=c.v x}).toList.map (·.born)=es.toList.map (·.born):=by
     rw[BV];apply zo;intro m;simp only[zd,tz];cases es.toList[m]?<;>simp
     split<;>rfl
    rw[this];exact G
   ·intro e he';have:e.born∈(es.modify j λe=>{e with key:=.int k n,val:=c.v x}).toList.map (·.born):=xN he';have e2:(es.modify j λe=>{e with key:=.int k n,val:=c.v x}).toList.map (·.born)=es.toList.map (·.born):=by
     rw[BV];apply zo;intro m;simp only[zd,tz];cases es.toList[m]?<;>simp
     split<;>rfl
    rw[e2]at this;obtain⟨L,H,J⟩:=zE.1 this;rw[←J];exact C L H
 | none=>
  refine⟨{w with heap:=w.heap.setIfInBounds r (.map (es.push {key:=.int k n,val:=c.v x,born:=d}) (d+1))},?_,⟨rfl,rfl,rfl,by simp⟩,UO _ _ _,?_⟩
  ·simp only[Instr.mapUpdate,Sem.run_bind,run_underlying hu,Result.andThen_ok,Qw hk,getObj,Sem.run,s,Kf hk i,hf];simp[setObj,Sem.run,s]
  ·refine⟨_,d+1,g _,?_,gP E,?_,?_⟩
   ·simp[dB,H5 hf,i]
   ·simp only[Array.toList_push,jY,zS,qs,pA];refine⟨G,by simp,?_⟩;intro a ha b hb';simp at hb';subst hb';obtain⟨e,B,rfl⟩:=zE.1 ha;exact C e B
   ·intro e he';simp only[Array.toList_push,zK,zN]at he';rcases he' with h|rfl
    ·have:=C e h;omega
    ·simp
theorem FX {k:IntKind}{c:CK}:∀(l:List (Int×c.T)) (es:List MapEntry) (j:Nat) (n:Int),
 es.map (λe=>(e.key,e.val))=l.map (λx=>(Value.int k x.1,c.v x.2))->(l.map (·.1)).Nodup->l.findIdx? (λx=>x.1==n)=some j →
 (es.eraseIdx j).map (λe=>(e.key,e.val))=(cT l n).map (λx=>(Value.int k x.1,c.v x.2))
 | [],es,j,n,he,hn,hj=>by simp at hj
 | y::l,[],j,n,he,hn,hj=>by simp at he
 | y::l,e::es,j,n,he,hn,hj=>by
  simp only[zS,List.cons.injEq]at he;simp only[zS,zr]at hn;simp only[vf]at hj;cases hy:y.1==n
  ·rw[hy]at hj;simp only[zc,zz,nV]at hj;obtain⟨j',hj',rfl⟩:=hj;have:=FX l es j' n he.2 hn.2 hj';simp only[List.eraseIdx_cons_succ,zS,this,cT,tB,hy,he.1];simp
  ·rw[hy]at hj;simp at hj;subst hj;have a:y.1=n:=by simpa using hy
   simp only[List.eraseIdx_zero,List.tail_cons,cT,tB,hy,Bool.not_true,zc,zz,he.2]
   congr 1
   symm
   rw[pf];intro z hz;have:z.1≠y.1:=λe=>hn.1 (by rw[←e];exact xN hz);simpa[a]using this
theorem LL {α:Type}{l:List (Int×α)}{n:Int}(h:l.findIdx? (λx=>x.1==n)=none):cT l n=l:=by
 rw[uj]at h;unfold cT;rw[pf];intro z hz;have:=h z hz;simpa using this
theorem jd {α:Type}{l:List (Int×α)}{n:Int}(hn:(l.map (·.1)).Nodup):((cT l n).map (·.1)).Nodup:=
 hn.sublist (List.Sublist.map _ rW)
theorem R5 {P:Program}{t kt et ty:Nat}{k:IntKind}{c:CK}(hu:P.underlying t=some (.map kt et))(hk:P.underlying kt=some (.int k)){m:Option Nat}{l:List (Int×c.T)}{n:Int}{w:World}{ats:List Nat}
 (hm:jh w.heap m k c l):∃w',(Builtin.delete_ (t::ats).toArray ty #[.map m,.int k n]).run P w=.ok (.tuple #[]) w'/\W7 w w'/\(∀r,m=some r->Qm w.heap w'.heap r)/\(m=none->w'.heap=w.heap)/\jh w'.heap m k c (cT l n):=by
 cases m with
 | none=>
  simp only[jh]at hm;subst hm;exact⟨w,by simp[Builtin.delete_,run_underlying hu,Qw hk],.refl _,λr h=>(by cases h),λ_=>rfl,rfl⟩
 | some r=>
  obtain⟨g,a,i,d,p,u,y⟩:=hm;have s:r<w.heap.size:=(zt.1 i).1;have b:∀o,(w.heap.setIfInBounds r o)[r]?=some o:=λo=>by simp[s]
  cases hf:l.findIdx? (λx=>x.1==n)with
  | some j=>
   refine⟨{w with heap:=w.heap.setIfInBounds r (.map (g.eraseIdxIfInBounds j) a)},?_,⟨rfl,rfl,rfl,by simp⟩,λz h=>(by cases h;exact UO _ _ _),(λh=>by cases h),?_⟩
   ·simp[Builtin.delete_,run_underlying hu,Qw hk,getObj,Sem.run,i,Kf hk d,hf,setObj]
   ·refine⟨_,a,b _,?_,jd p,?_,?_⟩
    ·rw[BM];exact FX l g.toList j n d p hf
    ·rw[BM];exact u.sublist (List.Sublist.map _ (List.eraseIdx_sublist _ _))
    ·rw[BM];intro e he';exact y e ((List.eraseIdx_sublist _ _).mem he')
  | none=>
   refine⟨{w with heap:=w.heap.setIfInBounds r (.map g a)},?_,⟨rfl,rfl,rfl,by simp⟩,λz h=>(by cases h;exact UO _ _ _),(λh=>by cases h),?_⟩
   ·simp[Builtin.delete_,run_underlying hu,Qw hk,getObj,Sem.run,i,Kf hk d,hf,setObj]
   ·rw[LL hf];exact⟨g,a,b _,d,p,u,y⟩
theorem tH {P:Program}{w:World}{sz n:Nat}{s:Sl}{xs:List Value}(hl:xs.length=s.len*sz)(h:Rd w.heap s.a xs)(hn:n=s.len) :
 (Builtin.firstCells sz n (.slice s.a s.len s.cap)).run P w=.ok xs.toArray w:=by
 subst hn;obtain⟨a,len,cap⟩:=s;cases a with
 | none=>simp only[Rd]at h;subst h;simp[Builtin.firstCells]
 | some a=>
  simp only at hl h;simp only[Builtin.firstCells];rw[←hl];have:=run_loadCells_list (P:=P) (w:=w) a xs (λj v b=>h j v b);exact this
theorem Vb {z:Array Value}(hz:0<z.size):∀n,Builtin.zeroCells z n=(List.replicate n z.toList).flatten.toArray:=by
 intro n;apply Array.ext';simp only[Builtin.zeroCells,Array.toList_map,Array.toList_range]
 induction n with
 | zero=>simp
 | succ n ih=>
  rw[Aw,List.flatten_append];simp only[wg,List.flatten_nil,kX];rw[←ih];rw[Nat.succ_mul,List.range_add,jY,k6]
  congr 1
  apply List.ext_getElem
  ·simp
  ·intro i h1 h2;simp at h1 h2;simp[uD h1,h1]
theorem Ff (n c:Nat)(h:¬n<=c):Builtin.nextslicecap n c<=2*n:=by
 unfold Builtin.nextslicecap;split
 ·omega
 ·split
  ·omega
  ·have key:∀r c,c<=2*n->(Builtin.growBy n r c)<=2*n:=by
    intro r
    induction r with
    | zero=>intro c hc;simpa[Builtin.growBy]using hc
    | succ r ih=>
     intro c hc;simp only[Builtin.growBy];split
     ·exact hc
     ·exact ih _ O
   exact key _ _ O
theorem Ir {P:Program}{t e ty:Nat}{te:TypeInfo}{z:Value}{s x:Sl}{K:Sl->Hp->Prop}{w:World}(hu:P.underlying t=some (.slice e))(hi:P.info? e=some te)(hz:te.zero=some z)(hzs:z.cells.size=te.size)(hpos:0<te.size)
 (h:App s te.size te.bytes e z.cells.toList x w.heap K) :
 ∃r w',(Builtin.append_ #[t,t] ty #[.slice s.a s.len s.cap,.slice x.a x.len x.cap]).run P w=.ok (.slice (Sl.a r) r.len r.cap) w'/\W7 w w'/\K r w'.heap:=by
 obtain⟨N,J,F,H,L,M,A,W,V,b,d⟩:=h;have p:=tH (P:=P) (n:=s.len) F L rfl;have i:=tH (P:=P) (n:=x.len) H M rfl;by_cases hroom:s.len+x.len<=s.cap
 ·have b:=b hroom;cases hsa:s.a with
  | some a=>
   rw[hsa]at b;obtain⟨w',Q,R,B⟩:=Hm (P:=P) A b;rw[hsa]at p;refine⟨⟨some a,s.len+x.len,s.cap⟩,w',?_,R,B⟩;simp[Builtin.append_,run_underlying hu,sizeOf,typeInfo,hi,Builtin.lenOf,hroom,i,Q]
  | none=>
   rw[hsa]at b;rw[hsa]at p;refine⟨⟨none,s.len+x.len,s.cap⟩,w,?_,.refl _,b⟩;simp[Builtin.append_,run_underlying hu,sizeOf,typeInfo,hi,Builtin.lenOf,hroom,i]
 ·have d:=d hroom;have j:¬(2^48<Builtin.nextslicecap (s.len+x.len) s.cap*te.bytes):=by
   have:=Ff (s.len+x.len) s.cap hroom;have:Builtin.nextslicecap (s.len+x.len) s.cap*te.bytes<=2*(s.len+x.len)*te.bytes:=lX _ this;rw[vQ]at this;omega
  have G:¬(IntKind.i64.max<((s.len+x.len:Nat):Int)):=by
   have:IntKind.i64.max=9223372036854775807:=by decide
   rw[this];omega
  have E:¬(IntKind.i64.max<((s.len:Int)+(x.len:Int))):=by
   have:IntKind.i64.max=9223372036854775807:=by decide
   rw[this];omega
  have D:=Vb (z:=z.cells) O;have y:s.cap<s.len+x.len:=by omega
  have g:¬(281474976710656<Builtin.nextslicecap (s.len+x.len) s.cap*te.bytes):=by simpa using j
  let q:=Question.appendCap (s.len+x.len) s.cap e
  let c:=q.cut (w.tape w.drawn q)
  have U:s.len+x.len<=c:=by simp only[c,q,Question.cut];omega
  have B:=d c U;refine⟨⟨some ⟨w.heap.size,0,none⟩,s.len+x.len,c⟩,{w with drawn:=w.drawn+1,heap:=w.heap.push (.cells (N++J++(List.replicate (c-(s.len+x.len)) z.cells.toList).flatten).toArray e (0,0))},?_,⟨rfl,rfl,rfl,by simp⟩,B⟩;have S:(Question.appendCap (s.len+x.len) s.cap e).forced=false:=rfl;have C:¬(9223372036854775807<(s.len:Int)+(x.len:Int)):=by omega
  have u:=tH (P:=P) (w:=w.drew) (n:=s.len) F (show Rd w.drew.heap s.a N from L) rfl;have m:=tH (P:=P) (w:=w.drew) (n:=x.len) H (show Rd w.drew.heap x.a J from M) rfl;simp[Builtin.append_,run_underlying hu,sizeOf,typeInfo,hi,Builtin.lenOf,hroom,C,S,g,u,m,zeroValue,hz,D,newRow];refine⟨rfl,?_⟩;unfold World.alloc World.drew;simp[c,q]
theorem PO {P:Program}{t t' e ty:Nat}{te:TypeInfo}{z:Value}{s:Sl}{n:Int}{ki:IntKind}{K:Sl->Hp->Prop}{w:World}(hu:P.underlying t=some (.slice e))(hu':P.underlying t'=some (.int ki))(hi:P.info? e=some te)(hz:te.zero=some z)(hzs:z.cells.size=te.size)(hpos:0<te.size)
 (h:sU s te.size te.bytes e z.cells.toList n w.heap K) :
 ∃r w',(Builtin.append_ #[t,t'] ty #[.slice s.a s.len s.cap,.int .i64 n]).run P w=.ok (.slice (Sl.a r) r.len r.cap) w'/\W7 w w'/\K r w'.heap:=by
 obtain⟨N,X,V,W,M,h5,h6,Y,i,j⟩:=h;obtain⟨n,rfl⟩:=za N;simp only[dE]at h5 h6 Y i j;have E:=tH (P:=P) (n:=s.len) V W rfl;have H:∀v∈(List.replicate n z.cells.toList).flatten,dQ v=true:=by
  intro v G;simp only[List.mem_flatten,yh]at G;obtain⟨l,⟨_,rfl⟩,G⟩:=G;exact M v G
 have B:IntKind.i64.wrap (n:Int)=n:=by unfold IntKind.wrap;simp[IntKind.bits,IntKind.signed];omega
 have A:IntKind.i64.wrap 0=0:=by decide
 have u:=Vb (z:=z.cells) O;have y:¬((n:Int)<0):=by omega
 have L:¬((n:Int)*(te.bytes:Int)>2^48):=by
  have:(2:Int)^46<=2^48:=by decide
  omega
 have p:¬(281474976710656<(n:Int)*(te.bytes:Int)):=by simpa using L
 have J:n*te.size=0->(List.replicate n z.cells.toList).flatten=[]:=by
  intro h0;rcases ui.1 h0 with h|h
  ·subst h;simp
  ·omega
 by_cases hroom:s.len+n<=s.cap
 ·have i:=i hroom;cases hsa:s.a with
  | some a=>
   rw[hsa]at i;obtain⟨w',R,Z,Q⟩:=Hm (P:=P) H i;rw[hsa]at E;refine⟨⟨some a,s.len+n,s.cap⟩,w',?_,Z,Q⟩;by_cases hn:n*te.size=0
   ·have:=J hn;rw[this]at R;rcases ui.1 hn with hn'|hn'
    ·subst hn';have b:s.len<=s.cap:=by simpa using hroom
     simp[Builtin.append_,run_underlying hu,run_underlying hu',sizeOf,typeInfo,hi,Builtin.lenOf,b,asInt,asIntOf,A,R]
    ·omega
   ·have g:¬n=0:=λe=>hn (by rw[e];simp);have d:¬te.size=0:=by omega
    simp[Builtin.append_,run_underlying hu,run_underlying hu',sizeOf,typeInfo,hi,Builtin.lenOf,hroom,R,asInt,asIntOf,B,y,p,hn,g,d,zeroValue,hz,u]
  | none=>
   rw[hsa]at i;rw[hsa]at E;refine⟨⟨none,s.len+n,s.cap⟩,w,?_,.refl _,i⟩;by_cases hn:n*te.size=0
   ·rcases ui.1 hn with hn'|hn'
    ·subst hn';have b:s.len<=s.cap:=by simpa using hroom
     simp[Builtin.append_,run_underlying hu,run_underlying hu',sizeOf,typeInfo,hi,Builtin.lenOf,b,asInt,asIntOf,A]
    ·omega
   ·have g:¬n=0:=λe=>hn (by rw[e];simp);have d:¬te.size=0:=by omega
    simp[Builtin.append_,run_underlying hu,run_underlying hu',sizeOf,typeInfo,hi,Builtin.lenOf,hroom,asInt,asIntOf,B,y,p,hn,g,d,zeroValue,hz,u]
 ·have j:=j hroom;have C:¬(2^48<Builtin.nextslicecap (s.len+n) s.cap*te.bytes):=by
   have:=Ff (s.len+n) s.cap hroom;have:Builtin.nextslicecap (s.len+n) s.cap*te.bytes<=2*(s.len+n)*te.bytes:=lX _ this;rw[vQ]at this;omega
  have m:¬(281474976710656<Builtin.nextslicecap (s.len+n) s.cap*te.bytes):=by simpa using C
  let q:=Question.appendCap (s.len+n) s.cap e
  let c:=q.cut (w.tape w.drawn q)
  have hc:s.len+n<=c:=by simp only[c,q,Question.cut];omega
  have Q:=j c hc;refine⟨⟨some ⟨w.heap.size,0,none⟩,s.len+n,c⟩,{w with drawn:=w.drawn+1,heap:=w.heap.push (.cells (X++(List.replicate n z.cells.toList).flatten++(List.replicate (c-(s.len+n)) z.cells.toList).flatten).toArray e (0,0))},?_,⟨rfl,rfl,rfl,by simp⟩,Q⟩;have hf:(Question.appendCap (s.len+n) s.cap e).forced=false:=rfl;have S:¬(9223372036854775807<(s.len:Int)+(n:Int)):=by omega
  have x:=tH (P:=P) (w:=w.drew) (n:=s.len) V (show Rd w.drew.heap s.a X from W) rfl;by_cases hn:n*te.size=0
  ·rcases ui.1 hn with hn'|hn'
   ·subst hn';have b:¬s.len<=s.cap:=by simpa using hroom
    have D:¬(281474976710656<Builtin.nextslicecap s.len s.cap*te.bytes):=by simpa using m
    have U:(Question.appendCap s.len s.cap e).forced=false:=rfl;have F:¬(9223372036854775807<(s.len:Int)):=by omega
    simp[Builtin.append_,run_underlying hu,run_underlying hu',sizeOf,typeInfo,hi,Builtin.lenOf,b,F,U,D,x,zeroValue,hz,u,newRow,asInt,asIntOf,A];refine⟨rfl,?_⟩;unfold World.alloc World.drew;simp[c,q]
   ·omega
  ·have g:¬n=0:=λe=>hn (by rw[e];simp);have d:¬te.size=0:=by omega
   simp[Builtin.append_,run_underlying hu,run_underlying hu',sizeOf,typeInfo,hi,Builtin.lenOf,hroom,S,hf,m,x,zeroValue,hz,u,newRow,asInt,asIntOf,B,y,p,hn,g,d];refine⟨rfl,?_⟩;unfold World.alloc World.drew;simp[c,q]
theorem L3 {P:Program}{t e ty:Nat}{ats:List TypeId}{te:TypeInfo}{d s:Sl}{K:aN}{w:World}(hu:P.underlying t=some (.slice e))(hi:P.info? e=some te)
 (h:sY d te.size s w.heap K):∃z w',(Builtin.copy_ (t::ats).toArray ty #[.slice d.a d.len d.cap,.slice s.a s.len s.cap]).run P w=.ok (.int .i64 z) w'/\W7 w w'/\K z w'.heap:=by
 obtain⟨r,p,i,y,m⟩:=h;have g:(Builtin.firstCells te.size (min s.len d.len) (.slice s.a s.len s.cap)).run P w=.ok r.toArray w:=by
  obtain⟨a,len,cap⟩:=s;cases a with
  | none=>simp only[Rd]at i;subst i;simp[Builtin.firstCells]
  | some a=>
   simp only at p i;simp only[Builtin.firstCells];rw[←p];exact run_loadCells_list (P:=P) (w:=w) a r (λj v u=>i j v u)
 have b:Nat.min s.len d.len=min s.len d.len:=rfl;cases hda:d.a with
 | none=>
  rw[hda]at m;refine⟨_,w,?_,.refl _,m⟩;simp[Builtin.copy_,run_underlying hu,sizeOf,typeInfo,hi,Builtin.lenOf,g,b,goInt]
 | some a=>
  rw[hda]at m;obtain⟨w',A,B,x⟩:=Hm (P:=P) y m;refine⟨_,w',?_,B,x⟩;simp[Builtin.copy_,run_underlying hu,sizeOf,typeInfo,hi,Builtin.lenOf,g,b,A,goInt]
theorem Pr {P:Program}{t e ty:Nat}{te:TypeInfo}{z:Value}{s:Sl}{K:aP}{w:World}(hu:P.underlying t=some (.slice e))(hi:P.info? e=some te)(hz:te.zero=some z)(hzs:z.cells.size=te.size)(hpos:0<te.size)
 (h:xG s z.cells.toList w.heap K):∃w',(Builtin.clear_ #[t] ty #[.slice s.a s.len s.cap]).run P w=.ok (.tuple #[]) w'/\W7 w w'/\K w'.heap:=by
 obtain⟨g,h⟩:=h;have d:=Vb (z:=z.cells) O;obtain⟨a,len,cap⟩:=s;cases a with
 | none=>exact⟨w,by simp[Builtin.clear_,run_underlying hu],.refl _,h⟩
 | some a=>
  simp only at h;cases len with
  | zero=>
   simp[np]at h;exact⟨w,by simp[Builtin.clear_,run_underlying hu],.refl _,h⟩
  | succ n=>
   obtain⟨w',j,m,i⟩:=Hm (P:=P) (λv b=>by
    simp only[List.mem_flatten,yh]at b;obtain⟨l,⟨_,rfl⟩,b⟩:=b;exact g v b) h
   refine⟨w',?_,m,i⟩;simp[Builtin.clear_,run_underlying hu,zeroValue,typeInfo,hi,hz,d,j]
theorem LG {P:Program}{t len:Nat}{ps:List (Nat×Value)}{K:TypeId->List Value->Prop}(h:BE P t len ps K):∃e te z cs,P.underlying t=some (.slice e)/\P.info? e=some te/\te.zero=some z/\K e cs ∧
 ((len=0/\ps=[]/\cs=[])\/(len*te.size<=16777216/\0<len*te.size/\z.cells.size=te.size/\ru (λi=>some (i*te.size,te.size)) (List.replicate len z.cells.toList).flatten ps=some cs)):=by
 unfold BE at h;split at h
 case h_2=>exact h.elim
 rename_i e hu;split at h
 case h_2=>exact h.elim
 rename_i te hi;split at h
 case h_2=>exact h.elim
 rename_i z hz;split at h
 ·exact⟨e,te,z,[],hu,hi,hz,h,.inl ⟨rfl,rfl,rfl⟩⟩
 ·exact h.elim
 ·rw[Wu]at h;obtain⟨a,h⟩:=h;simp only[zF,zT]at a;split at h
  case h_2=>exact h.elim
  rename_i cs hf;exact⟨e,te,z,cs,hu,hi,hz,h,.inr ⟨wX a.1.1,Nat.blt_eq.mp a.1.2,a.2,hf⟩⟩
theorem C7 {z:Array Value}(hz:0<z.size)(n:Nat):((Array.range (n*z.size)).map (z[· % z.size]!))=(List.replicate n z.toList).flatten.toArray:=Vb hz n
theorem Sg {P:Program}{ρ:Env}{K:Value->Hp->Prop}{a:Act}{w:World}(hf:∀x v,ev ρ x=some v->a.eval x=v)(o:Oper)(hk:eK P o.op o.type ρ w.heap K) :
 QI P (execOp a.eval o) w K:=by
 obtain⟨dst,op,ty,pos,after,guard⟩:=o;simp only at hk;have p:∀{s:Sem Value},(∃v B,s.run P w=.ok v B/\W7 w B/\K v B.heap)->QI P (do pure (Next.value (←s)):Sem Next) w K:=by
  rintro s ⟨v,B,hv,J,D⟩;exact .inl ⟨v,B,by simp[hv],J,D⟩
 have M:∀{s:Sem Unit},(∃B,s.run P w=.ok () B/\W7 w B/\K undef B.heap)->QI P (do s;pure Next.skip:Sem Next) w K:=by
  rintro s ⟨B,hv,J,D⟩;exact .inr (.inl ⟨B,by simp[hv],J,D⟩)
 unfold eK at hk;split at hk
 case h_1 t x y=>
  obtain⟨va,L,hk0⟩:=Wr hk;clear hk;obtain⟨Z,hx,hk⟩:=Wr hk0;clear hk0;simp only[execOp,hf _ _ L,hf _ _ hx];split at hk
  ·rename_i ad;cases hraw:vj P t
   case true=>
    rw[hraw]at hk;simp only[cond_true]at hk;rw[Wu]at hk;obtain⟨hc,hif,s1,s2,D⟩:=hk;simp only[zF,zT]at hc;obtain⟨h1,h2⟩:=hc;apply M;have hone:dQ Z=true:=by rcases hif with rfl|⟨t',u,rfl⟩<;>rfl
    have G:Z.cells = #[Z]:=by rcases hif with rfl|⟨t',u,rfl⟩<;>rfl
    have C:=FA (P:=P) (w:=w) hone s1 s2;refine⟨w.setCell ad Z,?_,⟨rfl,rfl,rfl,Nat.le_of_eq (KO w.heap ad Z).symm⟩,D⟩;have hr':(storeCells ad #[Z].toList).run P w=.ok () (w.setCell ad Z):=by
     simp only[storeCells,Addr.add_zero',Sem.run_bind,C,Result.andThen_ok];rfl
    simp only[Instr.storeAt,Instr.sureAddr,Sem.run_bind,Sem.run_pure,Result.andThen_ok,storeVar,QE h1,h2,G,ne_eq,zz];simpa using hr'
   rw[hraw]at hk;simp only[cond_false]at hk;rw[Wu]at hk;obtain⟨hc,hk⟩:=hk;simp only[zF,zT]at hc;obtain⟨h1,h2⟩:=hc;obtain⟨hk,h3⟩:=Dv hk;apply M;obtain⟨B,C,J,D⟩:=OK (P:=P) h3 hk;refine⟨B,?_,J,D⟩;simp only[Instr.storeAt,Instr.sureAddr,Sem.run_bind,Sem.run_pure,Result.andThen_ok,storeVar,QE h1,h2,ne_eq,not_true_eq_false,zz];simpa using C
  ·exact hk.elim
 case h_2 e=>
  split at hk
  case h_2=>exact hk.elim
  rename_i N H;split at hk
  case h_2=>exact hk.elim
  rename_i z S;apply p;refine⟨_,_,?_,V3 _ _,hk⟩;simp[Instr.alloc,Va H S,newVar,newRow,newObj,Sem.run]
 case h_3 e x=>
  obtain⟨v,hv,hk⟩:=Wr hk;simp only[execOp,hf _ _ hv];apply p;cases hraw:vj P e
  case true=>
   rw[hraw]at hk;simp only[cond_true]at hk;have G:v.cells = #[v]:=by rcases hk.1 with rfl|⟨t',u,rfl⟩<;>rfl
   refine⟨_,_,?_,V3 _ _,hk.2⟩;simp[Instr.box,newVar,newRow,newObj,Sem.run,G]
  rw[hraw]at hk;refine⟨_,_,?_,V3 _ _,hk⟩;simp[Instr.box,newVar,newRow,newObj,Sem.run]
 case h_4 t len ps=>
  split at hk
  case h_2=>exact hk.elim
  rename_i vs hps;have e1:=VD hf hps;have d:ps.map (λ(i,x)=>(i,a.eval x))=vs.toArray:=by apply Array.ext';simpa using e1
  obtain⟨e,N,z,cs,E,H,S,hk,hcase⟩:=LG hk;simp only[execOp,d];apply p;refine⟨_,_,?_,V3 _ _,hk⟩;rcases hcase with⟨rfl,rfl,rfl⟩|⟨hle,Y,hzs,hfl⟩
  ·simp only[Instr.buildSlice,Sem.run_bind,run_underlying E,Result.andThen_ok,sizeOf,VO H,Sem.run_pure,uf];simp[Instr.fill,newRow,newObj,Sem.run,Array.range_zero']
  have hts:0<N.size:=Nat.pos_of_mul_pos_left Y;have hfill:=Ur _ _ _ _ hfl;have V:=C7 (z:=z.cells) O len;rw[hzs]at V;have hne:¬(len*N.size=0):=by omega
  have hle':¬(len*N.size>2^24):=by
   have:(2:Nat)^24=16777216:=by decide
   omega
  simp only[Instr.buildSlice,Sem.run_bind,run_underlying E,Result.andThen_ok,sizeOf,VO H,Sem.run_pure,hle',zz,hne,Va H S,V,hzs,hfill,newRow,newObj,Sem.run]
 case h_5 t r=>
  split at hk
  ·apply p;refine⟨_,_,?_,V3 _ _,hk⟩;simp[Instr.makeMap,newObj,Sem.run]
  ·exact hk.elim
 case h_6 t l c=>
  obtain⟨vl,hl,hk⟩:=Wr hk;obtain⟨vc,hc,hk⟩:=Wr hk;simp only[execOp,hf _ _ hl,hf _ _ hc];split at hk
  case h_2=>exact hk.elim
  rename_i e n m E _;split at hk
  case h_2=>exact hk.elim
  rename_i N H;split at hk
  case h_2=>exact hk.elim
  rename_i z S;rw[Wu]at hk;obtain⟨j,h0,h1,h2,h3,hk⟩:=hk;simp only[zF,zT]at j;have Y:0<N.size:=Nat.blt_eq.mp j.2;apply p;refine⟨_,_,?_,V3 _ _,hk⟩;have hwn:IntKind.i64.wrap n=n:=by unfold IntKind.wrap;simp[IntKind.bits,IntKind.signed];omega
  have hwm:IntKind.i64.wrap m=m:=by unfold IntKind.wrap;simp[IntKind.bits,IntKind.signed];omega
  have hbig:¬((N.bytes:Int)*m>2^48):=by
   have:(2:Int)^46<=2^48:=by decide
   omega
  have hm0:¬m<0:=by omega
  have hn0:¬n<0:=by omega
  have hnm:¬n>m:=by omega
  have X:¬m<n:=by omega
  have V:=C7 (z:=z.cells) O m.toNat;have hrz2:Array.map (λx=>z.cells[x%z.cells.size]!) (Array.range (m.toNat*N.size))=(List.replicate m.toNat z.cells.toList).flatten.toArray:=by rw[←j.1];exact V
  have U:¬(281474976710656<(N.bytes:Int)*m):=by simpa using hbig
  by_cases hz0:m.toNat*N.size=0
  ·have hmz:m.toNat=0:=by
    rcases ui.1 hz0 with h|h
    ·exact h
    ·omega
   simp[Instr.makeSlice,run_underlying E,VO H,asInt,asIntOf,hwn,hwm,U,hm0,hn0,hnm,X,askRoom,mark,sizeOf,hmz,newRow];rw[show Array.range 0 = #[]from rfl];simp
  ·simp[Instr.makeSlice,run_underlying E,VO H,asInt,asIntOf,hwn,hwm,U,hm0,hn0,hnm,X,askRoom,mark,sizeOf,hz0,Va H S,newRow,hrz2];intro _;rfl
 case h_7 t x=>
  obtain⟨v,hv,F⟩:=Wr hk;obtain⟨kt,et,ki,c,E,W,Q⟩:=G0 F;clear hk F;simp only[execOp,hf _ _ hv];split at Q
  case h_2=>exact Q.elim
  rename_i m;apply p;obtain⟨l,hm,D⟩:=Q;cases m with
  | none=>
   refine⟨_,{w with heap:=w.heap.push (.mapIter none 0 #[] 0)},?_,V3 _ _,D _ aA (λb hb=>by simp[vz,vW hb]) ?_⟩
   ·simp[Instr.range,run_underlying E,newObj,Sem.run]
   ·simp only[jh]at hm;exact⟨hm,hm,rfl,0,#[],0,by simp⟩
  | some b=>
   obtain⟨es,clk,C,he,hn,hp,hb⟩:=hm;have hlt:b<w.heap.size:=(zt.1 C).1;refine⟨_,{w with heap:=w.heap.push (.mapIter (some b) clk #[] clk)},?_,V3 _ _,D _ aA (λb hb=>by simp[vz,vW hb]) ?_⟩
   ·simp[Instr.range,run_underlying E,newObj,getObj,Sem.run,C]
   ·exact⟨es,clk,#[],by simp,by simp[vz,vW hlt,C],he,hn,hp,hb,by rw[pf.2 (λe _=>by simp)];exact he,λx hx=>by cases hx⟩
 case h_8 t m k x=>
  obtain⟨vm,hm,F⟩:=Wr hk;obtain⟨vk,hkk,Q⟩:=Wr F;obtain⟨Z,hx,hk3⟩:=Wr Q;obtain⟨kt,et,ki,c,E,W,R⟩:=G0 hk3;clear hk F Q hk3;simp only[execOp,hf _ _ hm,hf _ _ hkk,hf _ _ hx];split at R
  ·split at R
   ·rename_i e;subst e;obtain⟨x,rfl,r,l,rfl,hl,D⟩:=Vw R;apply M;obtain⟨B,C,J,ho,hl'⟩:=Rc (P:=P) E W (x:=x) hl;exact⟨B,C,J,D _ ho hl'⟩
   ·exact R.elim
  ·exact R.elim
 case h_9 c=>
  obtain⟨callee,A,ats⟩:=c;simp only at hk;split at hk
  ·rename_i f args' L;have e1:=ZF hf L;have d:A.map a.eval=args'.toArray:=by apply Array.ext';simpa using e1
   have:=Ij hk;simpa[execOp,resolve,d,Act.eval,Deferred.ofValue,invoke]using this
  ·rename_i g args' _ L;obtain⟨vg,hg,hk⟩:=Wr hk;obtain⟨fv,rfl,hk⟩:=Vw hk;have e1:=ZF hf L;have d:A.map a.eval=args'.toArray:=by apply Array.ext';simpa using e1
   have:=MU hk;simpa[execOp,resolve,d,hf _ _ hg,CK.v,Deferred.ofValue,invoke]using this
  ·rename_i r name args' L;obtain⟨vr,C,hk⟩:=Wr hk;have e1:=ZF hf L;have d:A.map a.eval=args'.toArray:=by apply Array.ext';simpa using e1
   have:=RJ hk;simpa[execOp,resolve,d,hf _ _ C,invoke]using this
  ·rename_i sa sn sc xa xn xc t t' L ht;have e1:=ZF hf L;have d:A.map a.eval = #[.slice sa sn sc,.slice xa xn xc]:=by apply Array.ext';simpa using e1
   have e2:ats = #[t,t']:=by apply Array.ext';simpa using ht
   subst e2;split at hk
   case h_2=>exact hk.elim
   rename_i e E;split at hk
   case h_2=>exact hk.elim
   rename_i N H;split at hk
   case h_2=>exact hk.elim
   rename_i z S;rw[Wu]at hk;obtain⟨j,hk⟩:=hk;simp only[zF,zT]at j;obtain⟨⟨h1,h2⟩,h3⟩:=j;have ett:t=t':=zy h1;subst ett;obtain⟨r,B,C,J,D⟩:=Ir (P:=P) (ty:=ty) E H S h2 (Nat.blt_eq.mp h3) hk;refine .inl ⟨_,B,?_,J,D⟩;simp only at C;simp[execOp,resolve,d,invoke,builtin,C]
  ·rename_i m k' n t ats' L ht;have e1:=ZF hf L;have d:A.map a.eval = #[.map m,.int k' n]:=by apply Array.ext';simpa using e1
   have e2:ats=(t::ats').toArray:=by apply Array.ext';simpa using ht
   subst e2;obtain⟨kt,et,ki,c,E,W,F⟩:=G0 hk;clear hk;split at F
   ·rename_i e;subst e;obtain⟨l,hl,D⟩:=F;obtain⟨B,C,J,h1,h2,h3⟩:=R5 (P:=P) (ty:=ty) (ats:=ats') E W (n:=n) hl;refine .inl ⟨_,B,?_,J,D _ h1 h2 h3⟩;simp[execOp,resolve,d,invoke,builtin,C]
   ·exact F.elim
  ·rename_i sa sn sc n t t' L ht;have e1:=ZF hf L;have d:A.map a.eval = #[.slice sa sn sc,.int .i64 n]:=by apply Array.ext';simpa using e1
   have e2:ats = #[t,t']:=by apply Array.ext';simpa using ht
   subst e2;split at hk
   case h_2=>exact hk.elim
   rename_i e ki E hu';split at hk
   case h_2=>exact hk.elim
   rename_i N H;split at hk
   case h_2=>exact hk.elim
   rename_i z S;rw[Wu]at hk;obtain⟨j,hk⟩:=hk;simp only[zF,zT]at j;obtain⟨r,B,C,J,D⟩:=PO (P:=P) (ty:=ty) E hu' H S j.1 (Nat.blt_eq.mp j.2) hk;refine .inl ⟨_,B,?_,J,D⟩;simp only at C;simp[execOp,resolve,d,invoke,builtin,C]
  ·rename_i da dn dc xa xn xc t ats' L ht;have e1:=ZF hf L;have d:A.map a.eval = #[.slice da dn dc,.slice xa xn xc]:=by apply Array.ext';simpa using e1
   have e2:ats=(t::ats').toArray:=by apply Array.ext';simpa using ht
   subst e2;split at hk
   case h_2=>exact hk.elim
   rename_i e E;split at hk
   case h_2=>exact hk.elim
   rename_i N H;obtain⟨r,B,C,J,D⟩:=L3 (P:=P) (ty:=ty) (ats:=ats') E H hk;refine .inl ⟨_,B,?_,J,D⟩;simp only at C;simp[execOp,resolve,d,invoke,builtin,C]
  ·rename_i sa sn sc t L ht;have e1:=ZF hf L;have d:A.map a.eval = #[.slice sa sn sc]:=by apply Array.ext';simpa using e1
   have e2:ats = #[t]:=by apply Array.ext';simpa using ht
   subst e2;split at hk
   case h_2=>exact hk.elim
   rename_i e E;split at hk
   case h_2=>exact hk.elim
   rename_i N H;split at hk
   case h_2=>exact hk.elim
   rename_i z S;rw[Wu]at hk;obtain⟨j,hk⟩:=hk;simp only[zF,zT]at j;obtain⟨B,C,J,D⟩:=Pr (P:=P) (ty:=ty) E H S j.1 (Nat.blt_eq.mp j.2) hk;refine .inl ⟨_,B,?_,J,D⟩;simp only at C;simp[execOp,resolve,d,invoke,builtin,C]
  ·exact hk.elim
 ·exact hk.elim
theorem Dh {k:IntKind}{c:CK}(p:MapEntry->Bool)(q:Int×c.T->Bool):∀(L:List MapEntry) (T:List (Int×c.T)),L.map (λe=>(e.key,e.val))=T.map (λx=>(Value.int k x.1,c.v x.2)) →
 (∀(j:Nat) (e:MapEntry) (y:Int×c.T),L[j]?=some e->T[j]?=some y->p e=q y)->(L.filter p).map (λe=>(e.key,e.val))=(T.filter q).map (λx=>(Value.int k x.1,c.v x.2))
 | [],T,h,_=>by
  cases T with
  | nil=>rfl
  | cons y T=>simp at h
 | e::L,[],h,_=>by simp at h
 | e::L,y::T,h,hpq=>by
  simp only[zS,List.cons.injEq]at h;have h0:=hpq 0 e y rfl rfl;have a:=Dh p q L T h.2 (λj b i g d=>hpq (j+1) b i (by simpa using g) (by simpa using d));simp only[tB,h0];cases q y
  ·simpa using a
  ·simp[h.1,a]
theorem It.Nd {P:Program}{r:Nat}{k:IntKind}{c:CK}{m:Option Nat}{l todo:List (Int×c.T)}{cur:Option (Int×c.T)}{w:World}(hit:It w.heap r k c m l todo cur)(ty:Nat) :
 (todo=[]/\∃w',(Instr.next (.pointer (some ⟨r,0,none⟩)) false ty).run P w=.ok (.tuple #[.bool false]) w'/\W7 w w'/\w'.heap=w.heap) ∨
 (∃n x w',(n,x)∈todo/\(Instr.next (.pointer (some ⟨r,0,none⟩)) false ty).run P w=.ok (.tuple #[.bool true,.int k n,c.v x]) w'/\W7 w w'/\Qm w.heap w'.heap r ∧
  It w'.heap r k c m l (todo.filter λy=>!(y.1==n)) (some (n,x))):=by
 cases m with
 | none=>
  obtain⟨rfl,rfl,rfl,s,q,y,hr⟩:=hit;exact .inl ⟨rfl,w,by simp[Instr.next,getObj,Sem.run,hr],.refl _,rfl⟩
 | some b=>
  obtain⟨es,clk,seen,hr,hb,he,hn,hp,hlt,htodo,hcur⟩:=hit;have hrlt:r<w.heap.size:=(zt.1 hr).1;have hrb:r≠b:=λe=>by rw[e,hb]at hr;cases hr
  have hchk:¬((!seen.isEmpty && !es.isEmpty&&es.all (·.born≥clk))=true):=by
   intro h;simp only[zF,l6,Array.all_eq_true',zU]at h;obtain⟨⟨_,h2⟩,h3⟩:=h;have h2':es ≠ #[]:=by simpa[yx]using h2
   obtain⟨e,hme⟩:=Array.exists_mem_of_ne_empty es h2';have:=h3 e hme;have:=hlt e (by simpa using hme);omega
  have hold:((es.filter λe=>!seen.contains e.born).filter (·.born<clk))=es.filter λe=>!seen.contains e.born:=by
   rw[Array.filter_eq_self];intro e hme;have:e∈es:=(Array.mem_filter.1 hme).1;simpa using hlt e (by simpa using this)
  have hnew:((es.filter λe=>!seen.contains e.born).filter (·.born≥clk)) = #[]:=by
   rw[Array.filter_eq_empty_iff];intro e hme;have:e∈es:=(Array.mem_filter.1 hme).1;have:=hlt e (by simpa using this);simp;omega
  have hlist:(es.filter λe=>!seen.contains e.born).toList=es.toList.filter λe=>!seen.contains e.born:=Array.toList_filter;have hrun:∀(cand:Array (Option MapEntry)),cand=(if(es.filter λe=>!seen.contains e.born).isEmpty then #[none]else #[])++(es.filter λe=>!seen.contains e.born).map some →
   (Instr.next (.pointer (some ⟨r,0,none⟩)) false ty).run P w=(do
    match cand[←choose (.mapNext cand.size)]? with
    | some (some e)=>do
     setObj r (.mapIter (some b) clk (seen.push e.born) clk)
     pure (.tuple #[.bool true,e.key,e.val])
    | some none=>pure (.tuple #[.bool false])
    | none=>stuck "Next: no such candidate" : Sem Value).run P w := by
   rintro cand rfl;simp only[Instr.next,getObj,Sem.run_bind,Sem.run,hr,Result.andThen_ok,hb,hchk,zz,hold,hnew,Array.append_empty,zc,Sem.run_bind]
   try rfl
  cases htd:todo with
  | nil=>
   left;subst htd;have hnil:(es.filter λe=>!seen.contains e.born) = #[]:=by
    apply Array.ext';rw[hlist];have:=congrArg List.length htodo;simpa using this
   refine⟨rfl,w,?_,.refl _,rfl⟩;rw[hrun #[none] (by rw[hnil];simp)];simp[choose,Sem.run,Question.forced]
  | cons y ys=>
   right;have hlen:(es.filter λe=>!seen.contains e.born).size=todo.length:=by
    rw[←uZ,hlist];simpa using congrArg List.length htodo
   have hne:(es.filter λe=>!seen.contains e.born).isEmpty=false:=by
    rw[htd]at hlen;simp only[zY]at hlen;cases hce:(es.filter λe=>!seen.contains e.born).isEmpty
    ·rfl
    ·rw[yx]at hce;rw[hce]at hlen;simp at hlen
   have key:∀(i:Nat),i<todo.length->∀w1:World,w1.heap=w.heap->W7 w w1->∃n x w',(n,x)∈todo ∧
    ((match ((es.filter λe=>!seen.contains e.born).map some)[i]? with
     | some (some e)=>do
      setObj r (.mapIter (some b) clk (seen.push e.born) clk)
      pure (.tuple #[.bool true,e.key,e.val])
     | some none=>pure (.tuple #[.bool false])
     | none=>stuck "Next: no such candidate" : Sem Value)).run P w1 = .ok (.tuple #[.bool true, .int k n, c.v x]) w' /\ W7 w w' /\ Qm w.heap w'.heap r ∧
    It w'.heap r k c (some b) l (todo.filter λy=>!(y.1==n)) (some (n,x)):=by
    intro i hi w1 hw1 io;have hi':i<(es.filter λe=>!seen.contains e.born).size:=by omega
    let e:=(es.filter λe=>!seen.contains e.born)[i]
    have hei:(es.filter λe=>!seen.contains e.born)[i]?=some e:=by simp[e,hi']
    have hti:(es.toList.filter λe=>!seen.contains e.born)[i]?=some e:=by rw[←hlist,vu];exact hei
    have hty:todo[i]?=some todo[i]:=by simp[hi]
    have hkv:(e.key,e.val)=(Value.int k todo[i].1,c.v todo[i].2):=by
     have:=congrArg (λl=>l[i]?) htodo;simp only[zd,hti,hty,zX,Option.some.injEq]at this;exact this
    simp only[Prod.mk.injEq]at hkv;have hmemF:e∈es.toList.filter λe=>!seen.contains e.born:=zG hti;have hme:e∈es.toList:=(zI.1 hmemF).1;have hns:seen.contains e.born=false:=by simpa using(zI.1 hmemF).2
    refine⟨todo[i].1,todo[i].2,{w1 with heap:=w1.heap.setIfInBounds r (.mapIter (some b) clk (seen.push e.born) clk)},j4 _,?_,?_,?_,?_⟩
    ·have hr1:w1.heap[r]?=some (.mapIter (some b) clk seen clk):=by rw[hw1];exact hr
     simp only[Array.getElem?_map,hei,zX,setObj,Sem.run_bind,Sem.run,hr1,Result.andThen_ok,Sem.run_pure,hkv.1,hkv.2]
    ·exact⟨io.1,io.2.1,io.2.2.1,by simp only[Array.size_setIfInBounds];exact io.2.2.2⟩
    ·rw[hw1];exact UO _ _ _
    ·rw[hw1];refine⟨es,clk,seen.push e.born,by simp[hrlt],?_,he,hn,hp,hlt,?_,λx hx=>?_⟩
     ·rw[yk hrb];exact hb
     ·-- the rest
      have hinj:∀e'∈es.toList,(e'.born==e.born)=true->e'=e:=by
       intro e' h1 h2;have h2':e'.born=e.born:=by simpa using h2
       obtain⟨p,hp1,kD⟩:=ug h1;obtain⟨q,hq1,hq2⟩:=ug hme;have hpw:=mg.1 hp;rcases px p q with h|h|h
       ·have:=hpw p q (by simpa using hp1) (by simpa using hq1) h;simp[kD,hq2,h2']at this
       ·subst h;rw[←kD,hq2]
       ·have:=hpw q p (by simpa using hq1) (by simpa using hp1) h;simp[kD,hq2,h2']at this
      have hf1:(es.toList.filter λe'=>!(seen.push e.born).contains e'.born)=(es.toList.filter λe'=>!seen.contains e'.born).filter λe'=>!(e'.born==e.born):=by
       rw[yO];apply vI;intro e' _;simp[Array.contains_eq_mem,Array.mem_push];rw[Bool.and_comm]
       congr 1
      rw[hf1];refine Dh _ _ _ _ htodo λj e' y h1 h2=>?_;have hm':e'∈es.toList:=(zI.1 (zG h1)).1;have hkv':(e'.key,e'.val)=(Value.int k y.1,c.v y.2):=by
       have:=congrArg (λl=>l[j]?) htodo;simp only[zd,h1,h2,zX,Option.some.injEq]at this;exact this
      simp only[Prod.mk.injEq]at hkv'
      congr 1
      rw[lQ];constructor
      ·intro hb';have:=hinj e' hm' hb';subst this;have:=hkv'.1.symm.trans hkv.1;simp only[Value.int.injEq,sS]at this;simpa using this
      ·intro hy;have hy':y.1=todo[i].1:=by simpa using hy
       have hkk:e'.key=e.key:=by rw[hkv'.1,hkv.1,hy']
       obtain⟨p,hp1,kD⟩:=ug hm';obtain⟨q,hq1,hq2⟩:=ug hme;have hll:es.toList.length=l.length:=by simpa using congrArg List.length he
       have hk1:∀(p:Nat) (hp:p<es.toList.length),es.toList[p].key=.int k (l[p]' O).1:=by
        intro p hp;have:=congrArg (λl=>l[p]?) he;simp only[zd,cV hp,cV (show p<l.length by omega),zX,Option.some.injEq,Prod.mk.injEq]at this;exact this.1
       have e1:=hk1 p hp1;have e2:=hk1 q hq1;rw[kD]at e1;rw[hq2]at e2;rw[hkk,e2]at e1;simp only[Value.int.injEq,sS]at e1;have:p=q:=by
        have hnn:=mg.1 hn;rcases px p q with h|h|h
        ·exact absurd (by rw[sI,sI];exact e1.symm) (hnn p q aE aE h)
        ·exact h
        ·exact absurd (by rw[sI,sI];exact e1) (hnn q p aE aE h)
       subst this;rw[←kD,←hq2];simp
     ·cases hx;refine⟨e,hme,by simp,hkv.1,hkv.2⟩
   have hsz:((if(es.filter λe=>!seen.contains e.born).isEmpty then #[none]else #[])++(es.filter λe=>!seen.contains e.born).map some:Array (Option MapEntry))=(es.filter λe=>!seen.contains e.born).map some:=by
    rw[hne];simp
   rw[←htd];rw[hrun _ hsz.symm];have hpos:0<todo.length:=by rw[htd];simp
   simp only[Sem.run_bind,choose,Sem.run,Array.size_map,hlen];cases hfo:(Question.mapNext todo.length).forced
   ·simp only[zc,zz,Result.andThen_ok];exact key _ (by simp only[Question.cut];exact tJ _ hpos) _ rfl ⟨rfl,rfl,rfl,zD _⟩
   ·simp only[zR,Result.andThen_ok];exact key 0 hpos w rfl (.refl _)
theorem It.IT {P:Program}{r:Nat}{k:IntKind}{c:CK}{m:Option Nat}{l todo:List (Int×c.T)}{n:Int}{x:c.T}{w:World}(hit:It w.heap r k c m l todo (some (n,x))) :
 (Instr.entry (.pointer (some ⟨r,0,none⟩))).run P w=.ok (.tuple #[.int k n,c.v x]) w:=by
 cases m with
 | none=>obtain⟨_,_,h,_⟩:=hit;cases h
 | some b=>
  obtain⟨A,E,z,D,J,K,L,H,F,y,i⟩:=hit;obtain⟨e,u,d,C,B⟩:=i _ rfl;have g:A.find? (·.born==e.born)=some e:=by
   rw[←Array.find?_toList,List.find?_eq_some_iff_getElem];obtain⟨p,a,kD⟩:=ug u;refine⟨by simp,p,a,kD,λj G=>?_⟩;have s:=mg.1 H j p (by simp;simp at a;omega) (by simpa using a) G;rw[sI,sI,kD]at s;rw[l6];cases hb2:(A.toList[j].born==e.born)
   ·rfl
   ·have:=zT.1 hb2;omega
  simp[Instr.entry,getObj,Sem.run,D,J,d,g,C,B]
def xp (k:IntKind)(c:CK)(o:Op)(ρ:Env)(h:Hp)(K:Value->Hp->Prop):Prop:=
 match o with
 | .next x false=>wv (ev ρ x) λv=>match v with
  | .pointer (some a)=>ny k c a h (K (.tuple #[.bool false]) h) λn y h'=>K (.tuple #[.bool true,.int k n,c.v y]) h'
  | _=>False
 | .entry x=>wv (ev ρ x) λv=>match v with
  | .pointer (some a)=>nM k c a h λn y=>K (.tuple #[.int k n,c.v y]) h
  | _=>False
 | _=>False
theorem It.spot {a:Addr}(h:a.off=0):∃s,a=⟨a.block,0,s⟩:=⟨a.spot,by cases a;simp at h;subst h;rfl⟩
theorem DD {P:Program}{k:IntKind}{c:CK}{ρ:Env}{K:Value->Hp->Prop}{a:Act}{w:World}(hf:∀x v,ev ρ x=some v->a.eval x=v)(o:Oper)(hk:xp k c o.op ρ w.heap K):QI P (execOp a.eval o) w K:=by
 obtain⟨B,op,j,pos,r,i⟩:=o;simp only at hk;unfold xp at hk;split at hk
 ·rename_i x;obtain⟨v,g,hk⟩:=Wr hk;simp only[execOp,hf _ _ g];split at hk
  case h_2=>exact hk.elim
  rename_i ad;obtain⟨u,m,l,e,C,d,z,D⟩:=hk;obtain⟨s,p⟩:=It.spot u;have b:∀w:World,(Instr.next (.pointer (some ad)) false j).run P w=(Instr.next (.pointer (some ⟨ad.block,0,none⟩)) false j).run P w:=by
   intro w;rw[p];rfl
  rcases d.Nd (P:=P) j with⟨ht,w',hr,io,hh⟩|⟨n,y,w',hm,hr,io,ho,hi'⟩
  ·exact .inl ⟨.tuple #[.bool false],w',by simp[b,hr],io,by rw[hh];exact z ht⟩
  ·exact .inl ⟨.tuple #[.bool true,.int k n,c.v y],w',by simp[b,hr],io,D n y hm _ ho hi'⟩
 ·rename_i x;obtain⟨v,g,hk⟩:=Wr hk;simp only[execOp,hf _ _ g];split at hk
  case h_2=>exact hk.elim
  rename_i ad;obtain⟨u,m,l,e,n,y,d,A⟩:=hk;obtain⟨s,p⟩:=It.spot u;have b:(Instr.entry (.pointer (some ad))).run P w=(Instr.entry (.pointer (some ⟨ad.block,0,none⟩))).run P w:=by
   rw[p];rfl
  exact .inl ⟨.tuple #[.int k n,c.v y],w,by simp[b,d.IT (P:=P)],.refl _,A⟩
 ·exact hk.elim
structure Fits (N:Nat) (ρ:Env) (a:Act):Prop where
 defers:a.defers=[]
 size:a.tmps.size=N
 at_:∀i v,ρ i=some v->a.tmps[i]?=some v
theorem Fits.ev {N:Nat}{ρ:Env}{a:Act}(h:Fits N ρ a):∀x v,ev ρ x=some v->a.eval x=v:=by
 intro x v hx;cases x with
 | tmp t=>
  have:=h.at_ t v hx;simp[Act.eval,qL,this]
 | const u=>simp only[Vc.ev,Option.some.injEq]at hx;exact hx
 | global g=>simp only[Vc.ev,Option.some.injEq]at hx;exact hx
 | func f=>simp only[Vc.ev,Option.some.injEq]at hx;exact hx
def qm (N:Nat):Option Nat->Bool
 | some d=>Nat.blt d N
 | none=>true
theorem Fits.put {N:Nat}{ρ:Env}{a:Act}(h:Fits N ρ a){d:Option Nat}(hd:qm N d=true)(v:Value):Fits N (ρ.hU d v) (a.put d v):=by
 cases d with
 | none=>exact h
 | some d=>
  have j:d<N:=Nat.blt_eq.mp hd;refine⟨h.defers,by simp[Act.put,h.size],λi u b=>?_⟩;simp only[Env.hU,Env.put]at b;cases hi:Nat.beq i d
  ·rw[hi]at b;have g:i≠d:=λe=>by subst e;simp at hi
   simp only[Act.put];rw[yk (Ne.symm g)];exact h.at_ i u b
  ·rw[hi]at b;have e:i=d:=zy hi;subst e;simp only[cond_true,Option.some.injEq]at b;subst b;simp[Act.put,h.size,j]
theorem Fits.weaken {N:Nat}{ρ ρ':Env}{a:Act}(h:Fits N ρ a)(hw:∀i v,ρ' i=some v->ρ i=some v):Fits N ρ' a:=
 ⟨h.defers,h.size,λi v b=>h.at_ i v (hw i v b)⟩
theorem GB (ρ:Env)(ds:List Nat):∀i v,ρ.dS ds i=some v->ρ i=some v:=by
 intro i v h;simp only[Env.dS]at h;cases hc:ds.contains i<;>rw[hc]at h<;>simp at h
 exact h
theorem Fits.lit {N:Nat}{ρ:Env}{a:Act}(h:Fits N ρ a){c:Nat}{b b':Bool}(hc:ρ c=some (.bool b))(e:b=b'):Fits N (ρ.put c (.bool b')) a:=by
 subst e;refine h.weaken λi v d=>?_;simp only[Env.put]at d;cases hi:Nat.beq i c
 ·rw[hi]at d;exact d
 ·rw[hi]at d;have e:i=c:=zy hi;subst e;rw[hc];exact d
def HX (ops:Array Oper)(o:Oper)(ρ:Env):Bool:=
 match o.guard with
 | none=>true
 | some (j,want)=>match (ops[j]?).bind (·.dst)with
  | some c=>match ρ c with
   | some (.bool b)=>b==want
   | _=>false
  | none=>false
def sr (ops:Array Oper)(o:Oper)(ρ:Env):Bool:=
 match o.guard with
 | none=>false
 | some (j,want)=>match (ops[j]?).bind (·.dst)with
  | some c=>match ρ c with
   | some (.bool b)=>!(b==want)
   | some (.tuple _)=>true
   | _=>false
  | none=>false
theorem Zd {N:Nat}{ops:Array Oper}{o:Oper}{ρ:Env}{a:Act}(hf:Fits N ρ a)(h:HX ops o ρ=true):Region.wanted o (yielded ops a.tmps)=true:=by
 unfold HX at h;unfold Region.wanted;cases hg:o.guard with
 | none=>rfl
 | some jw=>
  obtain⟨j,d⟩:=jw;rw[hg]at h;simp only at h ⊢;cases hc:(ops[j]?).bind (·.dst)with
  | none=>rw[hc]at h;cases h
  | some c=>
   rw[hc]at h;simp only at h;split at h
   ·rename_i b hb;have:=hf.at_ c _ hb;simp only[yielded,hc,Option.bind_some,this];simpa using h
   ·cases h
theorem Ky {N:Nat}{ops:Array Oper}{o:Oper}{ρ:Env}{a:Act}(hf:Fits N ρ a)(h:sr ops o ρ=true):Region.wanted o (yielded ops a.tmps)=false:=by
 unfold sr at h;unfold Region.wanted;cases hg:o.guard with
 | none=>rw[hg]at h;cases h
 | some jw=>
  obtain⟨j,d⟩:=jw;rw[hg]at h;simp only at h ⊢;cases hc:(ops[j]?).bind (·.dst)with
  | none=>rw[hc]at h;cases h
  | some c=>
   rw[hc]at h;simp only at h;split at h
   ·rename_i b hb;have:=hf.at_ c _ hb;simp only[yielded,hc,Option.bind_some,this];simpa using h
   ·rename_i b hb;have:=hf.at_ c _ hb;simp only[yielded,hc,Option.bind_some,this];rfl
   ·cases h
def V2 (N:Nat)(ops:Array Oper):List Oper->Env->Bool
 | [],_=>true
 | o::os,ρ=>sr ops o ρ&&(qm N o.dst&&V2 N ops os (ρ.hU o.dst undef))
theorem FJ {P:Program}{N:Nat}{ops:Array Oper}{Q:Exit->Act->World->Prop}{tail:List Oper}{w:World}:∀{os:List Oper} {ρ:Env} {a:Act},V2 N ops os ρ=true->Fits N ρ a →
 (∀a',Fits N (ρ.dS (os.filterMap (·.dst))) a'->wpList P ops Q tail a' w)->wpList P ops Q (os++tail) a w
 | [],ρ,a,_,hf,h=>h a (hf.weaken (GB _ _))
 | o::os,ρ,a,hs,hf,h=>by
  simp only[V2,zF]at hs;obtain⟨h1,h2,h3⟩:=hs;have m:=Ky hf h1;simp only[kZ,wpList,m];refine FJ h3 (hf.put h2 _) λa' j=>h a' (j.weaken λi v b=>?_);simp only[Env.dS]at b ⊢;cases hc:(List.filterMap (·.dst) (o::os)).contains i
  ·rw[hc]at b;simp only[cond_false]at b;have g:(List.filterMap (·.dst) os).contains i=false:=by
    cases hd:o.dst<;>simp_all
   have e:∀d,o.dst=some d->i≠d:=by
    intro d hd;simp_all
   rw[g];simp only[cond_false];cases hd:o.dst with
   | none=>exact b
   | some d=>
    have:=e d hd;simp only[Env.hU,Env.put];have:Nat.beq i d=false:=by
     cases hb:Nat.beq i d
     ·rfl
     ·exact absurd (zy hb) this
    rw[this];exact b
  ·rw[hc]at b;cases b
theorem Cj {P:Program}{N:Nat}{ops:Array Oper}{Q:Act->Prop}{tail:List Oper}{w:World}:∀{os:List Oper} {ρ:Env} {a:Act},V2 N ops os ρ=true->Fits N ρ a →
 (∀a',Fits N (ρ.dS (os.filterMap (·.dst))) a'->wpStill P ops w Q tail a')->wpStill P ops w Q (os++tail) a
 | [],ρ,a,_,hf,h=>h a (hf.weaken (GB _ _))
 | o::os,ρ,a,hs,hf,h=>by
  simp only[V2,zF]at hs;obtain⟨h1,h2,h3⟩:=hs;have m:=Ky hf h1;simp only[kZ,wpStill,m];refine Cj h3 (hf.put h2 _) λa' j=>h a' (j.weaken λi v b=>?_);simp only[Env.dS]at b ⊢;cases hc:(List.filterMap (·.dst) (o::os)).contains i
  ·rw[hc]at b;simp only[cond_false]at b;have g:(List.filterMap (·.dst) os).contains i=false:=by
    cases hd:o.dst<;>simp_all
   have e:∀d,o.dst=some d->i≠d:=by
    intro d hd;simp_all
   rw[g];simp only[cond_false];cases hd:o.dst with
   | none=>exact b
   | some d=>
    have:=e d hd;simp only[Env.hU,Env.put];have:Nat.beq i d=false:=by
     cases hb:Nat.beq i d
     ·rfl
     ·exact absurd (zy hb) this
    rw[this];exact b
  ·rw[hc]at b;cases b
def bW (K:aO)(body:(Bool->Hp->Prop)->Prop):Prop:=∃J:Bool->Hp->Prop,(∀r h,J r h->K r h)/\body J
theorem bW.intro {K:aO}{body:(Bool->Hp->Prop)->Prop}(h:body K):bW K body:=⟨K,λ_ _ h=>h,h⟩
inductive RI where
 | op
 | it (k:IntKind) (c:CK)
 | cX (and:Bool) (n:Nat) (inner:List RI)
def Af (b:Bool):Operand->Bool
 | .const (.bool b')=>b'==b
 | _=>false
def Ue (ρ:Env)(x:Operand)(K:Bool->Prop):Prop:=match ev ρ x with
 | some (.bool r)=>K r
 | _=>False
def rK (ρ:Env)(c:Nat)(b:Bool):Bool:=match ρ c with
 | some (.bool b')=>b'==b
 | _=>false
def eB (P:Program)(N:Nat)(ops:Array Oper):Nat->List RI->List Oper->Env->Hp->(Env->Hp->Prop)->Prop
 | 0,_,_,_,_,_=>False
 | _+1,[],[],ρ,h,K=>K ρ h
 | n+1,.op::hs,o::os,ρ,h,K=>fN (HX ops o ρ&&qm N o.dst) (q9 P o.op o.type ρ h λv h'=>eB P N ops n hs os (ρ.hU o.dst v) h' K)
 | n+1,.it ki c::hs,o::os,ρ,h,K=>fN (HX ops o ρ&&qm N o.dst) (xp ki c o.op ρ h λv h'=>eB P N ops n hs os (ρ.hU o.dst v) h' K)
 | n+1,.cX and m inner::hs,os,ρ,h,K=>
  match os.drop m with
  | pk::rest=>match pk.op,pk.dst with
   | .pick (.tmp c) x y,some d=>match ρ c with
    | some (.bool b)=>fN (Nat.blt d N&&(Af (!and) (bif and then y else x)&&(HX ops pk (ρ.dS ((os.take m).filterMap (·.dst)))&&(rK ((ρ.put c (.bool (!and))).dS ((os.take m).filterMap (·.dst))) c (!and)&&V2 N ops (os.take m) (ρ.put c (.bool (!and)))))))
     (bW (λr h'=>eB P N ops n hs rest ((ρ.dS ((os.take m).filterMap (·.dst))).put d (.bool r)) h' K) λJ=>
      bif and then If b (eB P N ops n inner (os.take m) (ρ.put c (.bool true)) h λρ' h'=>fN (HX ops pk ρ'&&rK ρ' c true) (Ue ρ' x λr=>J r h')) (J false h)
      else If b (J true h) (eB P N ops n inner (os.take m) (ρ.put c (.bool false)) h λρ' h'=>fN (HX ops pk ρ'&&rK ρ' c false) (Ue ρ' y λr=>J r h')))
    | _=>False
   | _,_=>False
  | []=>False
 | _,_,_,_,_,_=>False
theorem Ul {P:Program}{ρ:Env}{K:Value->Hp->Prop}{a:Act}{w:World}(hf:∀x v,ev ρ x=some v->a.eval x=v)(o:Oper)(hk:q9 P o.op o.type ρ w.heap K) :
 QI P (execOp a.eval o) w K:=by
 unfold q9 at hk;cases hq:sq o.op
 ·rw[hq]at hk;exact Sg hf o hk
 ·rw[hq]at hk;obtain⟨v,d,b⟩:=Gn hf o hk;exact .inl ⟨v,w,d,.refl _,b⟩
theorem Ki {ρ:Env}{x:Operand}{K:Bool->Prop}(h:Ue ρ x K):∃r,ev ρ x=some (.bool r)/\K r:=by
 unfold Ue at h;split at h
 ·exact⟨_,by assumption,h⟩
 ·exact h.elim
theorem Bg {b:Bool}{x:Operand}(h:Af b x=true)(ρ:Operand->Value)(hc:∀v,ρ (.const v)=v):ρ x=.bool b:=by
 unfold Af at h;split at h
 ·rw[hc];simp at h;rw[h]
 ·cases h
theorem GV {P:Program}{a:Act}{w:World}{o:Oper}{c x y:Operand}{b r:Bool}{K:Value->Hp->Prop}(ho:o.op=.pick c x y)(hc:a.eval c=.bool b)(hr:a.eval (bif b then x else y)=.bool r)(hK:K (.bool r) w.heap) :
 QI P (execOp a.eval o) w K:=by
 obtain⟨g,op,i,pos,e,d⟩:=o;simp only at ho;subst ho;refine .inl ⟨_,w,?_,.refl _,hK⟩;cases b<;>simp at hr<;>simp[execOp,hc,asBool,hr]
def Vx (os:List Oper)(ρ ρ':Env):Prop:=∀i,(os.filterMap (·.dst)).contains i=false->∀v,ρ i=some v->ρ' i=some v
theorem Vx.cons {o:Oper}{os:List Oper}{ρ ρ':Env}{v:Value}(h:Vx os (ρ.hU o.dst v) ρ'):Vx (o::os) ρ ρ':=by
 intro i hi u hu;cases hd:o.dst with
 | none=>rw[hd]at h;exact h i (by simpa[hd]using hi) u hu
 | some d=>
  rw[hd]at h;simp[hd]at hi;refine h i (by simpa using hi.2) u ?_;simp only[Env.hU,Env.put];have:Nat.beq i d=false:=by
   cases hb:Nat.beq i d
   ·rfl
   ·exact absurd (zy hb) hi.1
  rw[this];exact hu
theorem Vx.cX {os rest:List Oper}{pk:Oper}{m d:Nat}{ρ ρ':Env}{r:Bool}(hd:pk.dst=some d)(hdrop:os.drop m=pk::rest)(h:Vx rest ((ρ.dS ((os.take m).filterMap (·.dst))).put d (.bool r)) ρ'):Vx os ρ ρ':=by
 intro i hi u hu;rw[←nH m os,hdrop,vA,AG,hd]at hi;simp only[rJ,zK,zW,decide_eq_false_iff_not,not_or]at hi;refine h i (by simpa using hi.2.2) u ?_;simp only[Env.put,Env.dS];have:Nat.beq i d=false:=by
  cases hb:Nat.beq i d
  ·rfl
  ·exact absurd (zy hb) hi.2.1
 rw[this];have a:((os.take m).filterMap (·.dst)).contains i=false:=by simpa using hi.1
 rw[a];exact hu
theorem Fits.tV {N:Nat}{os:List Oper}{ρ ρ':Env}{a:Act}{c:Nat}{b b':Bool}(h:Fits N ρ' a)(hc:ρ c=some (.bool b))(e:b=b')(k:Vx os (ρ.put c (.bool b')) ρ'):Fits N (ρ.dS (os.filterMap (·.dst))) a:=by
 refine h.weaken λi v d=>?_;simp only[Env.dS]at d;cases hci:(os.filterMap (·.dst)).contains i
 ·rw[hci]at d;refine k i hci v ?_;simp only[Env.put];cases hb:Nat.beq i c
  ·exact d
  ·have e2:i=c:=zy hb;subst e2;simp only[cond_false]at d;rw[hc]at d;simp only[cond_true];rw[←e];exact d
 ·rw[hci]at d;cases d
theorem Uo {ρ:Env}{c:Nat}{b:Bool}(h:rK ρ c b=true):ρ c=some (.bool b):=by
 unfold rK at h;split at h
 ·rename_i b' hb;simp at h;rw[hb,h]
 ·cases h
theorem Ke {P:Program}{N:Nat}{ops:Array Oper}{Q:Exit->Act->World->Prop}:∀(n:Nat) {hs:List RI} {os:List Oper} {tail:List Oper} {ρ:Env} {a:Act} {w:World} {K:Env->Hp->Prop},
 eB P N ops n hs os ρ w.heap K->Fits N ρ a->(∀ρ' a' w',Fits N ρ' a'->W7 w w'->Vx os ρ ρ'->K ρ' w'.heap->wpList P ops Q tail a' w')->wpList P ops Q (os++tail) a w
 | 0,_,_,_,_,_,_,_,h,_,_=>(by simp only[eB]at h)
 | n+1,[],[],tail,ρ,a,w,K,h,hf,hK=>by
  simp only[eB]at h;exact hK ρ a w hf (.refl _) (λ_ _ _ h=>h) h
 | n+1,[],o::os,tail,ρ,a,w,K,h,hf,hK=>(by simp only[eB]at h)
 | n+1,.op::hs,[],tail,ρ,a,w,K,h,hf,hK=>(by simp only[eB]at h)
 | n+1,.op::hs,o::os,tail,ρ,a,w,K,h,hf,hK=>by
  simp only[eB]at h;rw[Wu]at h;obtain⟨hc,h⟩:=h;simp only[zF]at hc;have G:=Zd hf hc.1;simp only[kZ,wpList,G,zR];refine .inl (QI.upon (Ul hf.ev o h) λv w' D p=>?_);exact Ke n p (hf.put hc.2 v) λρ' a' A g s E u=>hK ρ' a' A g (D.trans s) E.cons u
 | n+1,.it ki c::hs,[],tail,ρ,a,w,K,h,hf,hK=>(by simp only[eB]at h)
 | n+1,.it ki c::hs,o::os,tail,ρ,a,w,K,h,hf,hK=>by
  simp only[eB]at h;rw[Wu]at h;obtain⟨hc,h⟩:=h;simp only[zF]at hc;have G:=Zd hf hc.1;simp only[kZ,wpList,G,zR];refine .inl (QI.upon (DD hf.ev o h) λv w' D p=>?_);exact Ke n p (hf.put hc.2 v) λρ' a' A g s E u=>hK ρ' a' A g (D.trans s) E.cons u
 | n+1,.cX and m inner::hs,os,tail,ρ,a,w,K,h,hf,hK=>by
  simp only[eB]at h;split at h
  case h_2=>exact h.elim
  rename_i pk rest hdrop;split at h
  case h_2=>exact h.elim
  rename_i c x y d hop hd;split at h
  case h_2=>exact h.elim
  rename_i b hb;rw[Wu]at h;obtain⟨hc,J,hJ,h⟩:=h;simp only[zF]at hc;obtain⟨L,U,aa,Y,C⟩:=hc;have ad:qm N pk.dst=true:=by rw[hd];exact L
  have W:os++tail=os.take m++(pk::rest++tail):=by
   rw[←hdrop,←j3,nH]
  rw[W];have j:∀(r b':Bool) (z:Operand) a' w',b=b'->(bif b' then x else y)=z->Fits N (ρ.dS ((os.take m).filterMap (·.dst))) a'->W7 w w'->J r w'.heap->Region.wanted pk (yielded ops a'.tmps)=true →
   a'.eval (.tmp c)=.bool b'->a'.eval z=.bool r->wpList P ops Q (pk::rest++tail) a' w':=by
   intro r b' z a' w' e ez g D V G F hez;simp only[kZ,wpList,G,zR];refine .inl (QI.upon (K:=λv Z=>v=.bool r/\Z=w'.heap) (GV hop F (by rw[ez];exact hez) ⟨rfl,rfl⟩) λv A s p=>?_);obtain⟨rfl,hh⟩:=p;have ab:=g.put (d:=some d) L (.bool r);rw[hd];have H:=hJ _ _ V;rw[←hh]at H;exact Ke n H ab λρ' ac w3 M S E u=>hK ρ' ac w3 M ((D.trans s).trans S) (Vx.cX hd hdrop E) u
  have run:∀(b':Bool) (z:Operand),b=b'->(bif b' then x else y)=z →
   eB P N ops n inner (os.take m) (ρ.put c (.bool b')) w.heap (λρ' Z=>fN (HX ops pk ρ'&&rK ρ' c b') (Ue ρ' z λr=>J r Z))->wpList P ops Q (os.take m++(pk::rest++tail)) a w:=by
   intro b' z e ez hseg;refine Ke n hseg (hf.lit hb e) λρ' a' w' g D E p=>?_;rw[Wu]at p;simp only[zF]at p;obtain⟨⟨hg,X⟩,p⟩:=p;obtain⟨r,hr,V⟩:=Ki p;exact j r b' z a' w' e ez (g.tV hb e E) D V (Zd g hg) (g.ev _ _ (Uo X)) (g.ev _ _ hr)
  have B:∀(b':Bool),b=b'->b' = !and->J (!and) w.heap->wpList P ops Q (os.take m++(pk::rest++tail)) a w:=by
   intro b' e eb V;subst eb;refine FJ C (hf.lit hb e) λa' g=>?_;have R:Fits N (ρ.dS ((os.take m).filterMap (·.dst))) a':=g.tV (ρ':=(ρ.put c (.bool (!and))).dS ((os.take m).filterMap (·.dst))) hb e (λi hi v hv=>by simp only[Env.dS,hi];exact hv);have F:=g.ev (.tmp c) _ (Uo Y);refine j (!and) (!and) (bif (!and)then x else y) a' w e rfl R (.refl _) V (Zd R aa) F ?_;refine Bg ?_ _ (λv=>rfl);cases and<;>exact U
  cases and
  ·simp only[cond_false]at h;cases b
   ·exact run false y rfl rfl (h.f rfl)
   ·exact B true rfl rfl (h.t rfl)
  ·simp only[cond_true]at h;cases b
   ·exact B false rfl rfl (h.f rfl)
   ·exact run true x rfl rfl (h.t rfl)
variable {P:Program}{ops:Array Oper}{Q:Exit->Act->World->Prop}
def wP (ops:Array Oper)(k i:Nat):Bool:=match ops[k]? with
 | none=>false
 | some o=>o.after.toList.any λe=>Region.binds .any e&&Nat.beq e.on i
def TS (S:World->Prop)(C:List Nat)(listed:Array Bool)(w:World):Prop:=S w\/∃k∈C,listed.getD k false=true
def anyS (P:Program)(ops:Array Oper)(Q:Exit->Act->World->Prop)(S:World->Prop)(C:List Nat):Nat->Array Bool->Act->World->Prop
 | 0,listed,a,w=>Region.ready .any ops listed=[]/\Q .normal a w
 | m+1,listed,a,w=>(Region.ready .any ops listed=[]->Q .normal a w) ∧
  ∀i,i∈Region.ready .any ops listed->wpOp P ops Q i (λa' w'=>TS S C (listed.setIfInBounds i true) w'/\anyS P ops Q S C m (listed.setIfInBounds i true) a' w') a w
theorem VJ {S:World->Prop}{C:List Nat}:∀(m:Nat) (listed:Array Bool) (a:Act) (w:World),anyS P ops Q S C m listed a w->wpAny P .any ops Q m listed a w
 | 0,_,_,_,h=>h
 | m+1,_,_,_,h=>⟨h.1,λi hi=>wpOp_mono (λ_ _ h'=>VJ m _ _ _ h'.2) (h.2 i hi)⟩
theorem TS.out {S:World->Prop}{C:List Nat}{listed:Array Bool}{w:World}(h:TS S C listed w)(hn:∀k∈C,listed.getD k false=false):S w:=by
 rcases h with h|⟨k,hk,hl⟩
 ·exact h
 ·rw[hn k hk]at hl;cases hl
theorem LM {k i:Nat}{o:Oper}(ho:ops[k]?=some o)(hno:∀e∈o.after,Region.binds .any e=true->e.on≠i):wP ops k i=false:=by
 unfold wP;rw[ho];simp only;rw[mA];intro e he hb;simp only[zF]at hb;exact hno e (by simpa using he) hb.1 (zy hb.2)
theorem TS.drop {S:World->Prop}{C:List Nat}{listed:Array Bool}{w:World}{i j:Nat}(hij:i≠j)(hi:∀k∈C,k≠i)(h:TS S C ((listed.setIfInBounds i true).setIfInBounds j true) w):TS S C (listed.setIfInBounds j true) w:=by
 refine h.imp id ?_;rintro⟨k,hk,hl⟩;refine⟨k,hk,?_⟩;rw[Array.setIfInBounds_comm _ _ hij,getD_set_ne false (Ne.symm (hi k hk))]at hl;exact hl
theorem MB {S T:World->Prop}{C:List Nat}{i:Nat}{oi:Oper}{v:Value}(hi:ops[i]?=some oi)(hsel:∀(j:Nat) (o:Oper) cs b,ops[j]?=some o->o.op≠.select cs b)
 (hQ:∀c a w,Q (.panic c) (a.put oi.dst v) w->Q (.panic c) a w) (hiC:∀k∈C,k≠i) (hT:(∀w,T w)\/((∀w,S w->T w)/\∀k∈C,wP ops k i=true)) :
 ∀(m:Nat) (listed:Array Bool) (a:Act) (w:World),
  (∀j oj,ops[j]?=some oj->j≠i->listed.getD j true=false->(∀e∈oj.after,Region.binds .any e=true->e.on≠i)->oi.apart ops oj=true) →
  i∈Region.ready .any ops listed->((∀w,T w)\/∀k∈C,listed.getD k false=false)->YieldsIf P ops T oi v a->TS S C listed w →
  anyS P ops Q S C m (listed.setIfInBounds i true) (a.put oi.dst v) w->anyS P ops Q S C (m+1) listed a w:=by
 have s:∀{listed:Array Bool} {a:Act} {w:World} {K:Act->World->Prop},((∀w,T w)\/∀k∈C,listed.getD k false=false)->YieldsIf P ops T oi v a->TS S C listed w->K (a.put oi.dst v) w →
  wpOp P ops Q i (λF B=>TS S C (listed.setIfInBounds i true) B/\K F B) a w:=by
  intro listed a w K g hy hS hK;refine hy.wpOp hi ?_ ⟨?_,hK⟩
  ·rcases hT with hT|⟨hT,_⟩
   ·exact hT w
   ·rcases g with g|g
    ·exact g w
    ·exact hT w (hS.out g)
  ·refine hS.imp id ?_;rintro⟨k,u,hl⟩;exact⟨k,u,by rw[getD_set_ne false (Ne.symm (hiC k u))];exact hl⟩
 intro m
 induction m with
 | zero=>
  intro listed a w _ hr g hy hS H;refine⟨λh=>by rw[h]at hr;simp at hr,λj D=>?_⟩;by_cases hji:j=i
  ·rw[hji];exact s g hy hS H
  ·have p:=ready_mono D hji;rw[H.1]at p;simp at p
 | succ m ih=>
  intro listed a w hfree hr g hy hS H;refine⟨λh=>by rw[h]at hr;simp at hr,λj D=>?_⟩;by_cases hji:j=i
  ·rw[hji];exact s g hy hS H
  ·obtain⟨x,oj,r,z⟩:=mem_ready.1 D;have d:=(mem_ready.1 hr).1;have A:∀e∈oj.after,Region.binds .any e=true->e.on≠i:=by
    intro e he hb heq;have p:=z e he hb;rw[heq]at p;rw[qL]at p d;cases hg:listed[i]? with
    | none=>rw[hg]at p;cases p
    | some b=>rw[hg]at p d;simp only[py]at p d;rw[d]at p;cases p
   have M:=wpOp_putIf r (hfree j oj r hji x A) (λcs b=>hsel i oi cs b hi) (λcs b=>hsel j oj cs b r) hQ hy (H.2 j (ready_mono D hji));refine wpOp_mono (λF B G=>?_) M;have y:=G.2.1.drop (Ne.symm hji) hiC;refine⟨y,ih _ F B (λk ok u J E L=>?_) (ready_mono hr (Ne.symm hji)) ?_ G.1 y ?_⟩
   ·refine hfree k ok u J ?_ L;by_cases hjk:j=k
    ·rw[←hjk];exact x
    ·rwa [getD_set_ne true hjk]at E
   ·rcases hT with hT|⟨_,hw⟩
    ·exact .inl hT
    refine g.imp id λg k u=>?_;by_cases hjk:j=k
    ·exfalso;have:=hw k u;rw[←hjk,LM r A]at this;cases this
    ·rw[getD_set_ne false hjk];exact g k u
   ·rw[Array.setIfInBounds_comm _ _ hji];exact G.2.2
theorem GJ {S T:World->Prop}{C:List Nat}{i m:Nat}{oi:Oper}{v:Value}{listed:Array Bool}{a:Act}{w:World}(hi:ops[i]?=some oi)(hs:Region.noSelect ops=true)(hf:Region.free .any ops listed i=true)
 (hr:i∈Region.ready .any ops listed) (hQ:∀c a w,Q (.panic c) (a.put oi.dst v) w->Q (.panic c) a w) (hiC:C.contains i=false)
 (hT:(∀w,T w)\/((∀w,S w->T w)/\∀k∈C,wP ops k i=true)) (hn:(∀w,T w)\/∀k∈C,listed.getD k false=false) (hy:YieldsIf P ops T oi v a) (hS:TS S C listed w)
 (h:anyS P ops Q S C m (listed.setIfInBounds i true) (a.put oi.dst v) w):anyS P ops Q S C (m+1) listed a w:=
 MB hi (Region.noSelect_spec hs) hQ (λk b e=>by subst e;rw[wV.2 b]at hiC;cases hiC) hT m listed a w (Region.free_spec hi hf) hr hn hy hS h
theorem PR {S:World->Prop}{C:List Nat}{rs:List Nat}{m:Nat}{listed:Array Bool}{a:Act}{w:World}(hr:Region.ready .any ops listed=rs)(hne:rs≠[])
 (h:∀i∈rs,wpOp P ops Q i (λa' w'=>TS S C (listed.setIfInBounds i true) w'/\anyS P ops Q S C m (listed.setIfInBounds i true) a' w') a w):anyS P ops Q S C (m+1) listed a w:=
 ⟨λb=>absurd (hr▸b) hne,hr▸h⟩
theorem Jq {S:World->Prop}{C:List Nat}{listed:Array Bool}{a:Act}{w:World}(hr:Region.ready .any ops listed=[])(h:Q .normal a w):∀m,anyS P ops Q S C m listed a w
 | 0=>⟨hr,h⟩
 | _+1=>⟨λ_=>h,by rw[hr];simp⟩
theorem Ux {S:World->Prop}{C:List Nat}{id:Nat}{a:Act}{w:World}(hm:P.follows .mixedOrders=true)
 (h:anyS P ops Q S C ops.size (Array.replicate ops.size false) a {w with drawn:=w.drawn+1}):(Code.region id ops true).wp P Q a w:=
 wp_region_any hm (VJ _ _ _ _ h)
end Go.Vc
namespace Go.Vc
open Go
def HN (P:Program):Op->Bool
 | .load _ _=>false
 | .lookup .. => false
 | .typeAssert .. => false
 | .convert s _ _=>match P.underlying s with
  | some (.slice _)=>false
  | _=>true
 | .call c=>match c.callee,c.argTypes.toList with
  | .builtin .len,[t]=>match P.underlying t with
   | some (.map _ _)=>false
   | some _=>true
   | none=>false
  | .builtin .cap,_=>true
  | .builtin .max,_=>true
  | .builtin .min,_=>true
  | _,_=>false
 | o=>sq o
theorem BQ {op:BinOp}{k:IntKind}{x y:Int}{K:Value->Prop}(h:pK op k x y K):∃v,K v/\pK op k x y (· = v):=by
 cases op<;>simp only[pK,Ar,Nz,Nn]at h ⊢
 all_goals first
  | exact⟨_,h,rfl⟩
  | exact⟨_,h.2,h.1,rfl⟩
theorem Hc {op:BinOp}{b:Bool}{K:Value->Prop}(h:mD op b K):∃v,K v/\mD op b (· = v):=by
 cases op<;>simp only[mD]at h ⊢ <;> first|exact h.elim|exact⟨_,h,rfl⟩
theorem IL {P:Program}{op:BinOp}{t:Nat}{x y:Value}{K:Value->Prop}(h:lu P op t x y K):∃v,K v/\lu P op t x y (· = v):=by
 unfold lu at h ⊢;split at h
 ·obtain⟨v,a,b⟩:=Hc h;exact⟨v,a,by simp only[*]⟩
 ·obtain⟨v,a,b⟩:=Hc h;exact⟨v,a,by simp only[*]⟩
 ·obtain⟨v,a,b⟩:=Hc h;exact⟨v,a,by simp only[*]⟩
 ·obtain⟨d,h⟩:=h;obtain⟨v,a,b⟩:=Hc h;exact⟨v,a,by simp only[*];trivial⟩
 ·exact h.elim
theorem Lm {P:Program}{op:BinOp}{t:Nat}{x y:Value}{K:Value->Prop}(h:lM P op t x y K):∃v,K v/\lM P op t x y (· = v):=by
 unfold lM at h ⊢;split at h
 ·split at h
  ·obtain⟨v,a,b⟩:=BQ h;exact⟨v,a,by simpa[*]using b⟩
  ·rename_i hne;cases op<;>simp only at h
   all_goals try exact h.elim
   ·obtain⟨v,a,b⟩:=BQ h;exact⟨v,a,by simpa[hne]using b⟩
   ·obtain⟨v,a,b⟩:=BQ h;exact⟨v,a,by simpa[hne]using b⟩
 ·split at h
  ·obtain⟨v,a,b⟩:=Hc h;exact⟨v,a,by simp only[*]⟩
  ·exact h.elim
 ·cases op<;>simp only at h ⊢ <;> first|exact h.elim|exact⟨_,h,rfl⟩
 ·exact h.elim
theorem PV {P:Program}{op:BinOp}{t:Nat}{xs ys:List Value}{K:Value->Prop}(h:m5 P op t xs ys K):∃v,K v/\m5 P op t xs ys (· = v):=by
 unfold m5 at h ⊢;split at h
 case h_3=>exact h.elim
 all_goals
  rename_i hu;rw[Wu]at h;obtain⟨d,h⟩:=h;split at h
  case h_2=>exact h.elim
  rename_i b hb;obtain⟨v,e,a⟩:=Hc h;exact⟨v,e,by simp only[hu,Wu,hb];exact⟨d,a⟩⟩
theorem O0 {P:Program}{op:BinOp}{t:Nat}{y:Operand}{vx vy:Value}{K:Value->Prop}(h:vO P op t y vx vy K):∃v,K v/\vO P op t y vx vy (· = v):=by
 unfold vO at h ⊢;cases hn:uM y
 ·rw[hn]at h;simp only[cond_false]at h ⊢;split at h
  ·exact PV h
  ·exact Lm h
 ·rw[hn]at h;exact IL h
theorem ur {o:Option Value}{K:Value->Prop}(h:wv o K):∃v,K v/\wv o (· = v):=by
 obtain⟨v,rfl,a⟩:=Wr h;exact⟨v,a,rfl⟩
theorem OS {P:Program}{t off:Nat}{cs:List Value}{K:Value->Prop}(h:uo P t cs off K):∃v,K v/\uo P t cs off (· = v):=by
 unfold uo at h ⊢;split at h
 case h_2=>exact h.elim
 rename_i d ti hu hi;cases hd:V4 d
 ·rw[hd]at h;obtain⟨v,b,a⟩:=ur h;exact⟨v,b,by simpa[hd]using a⟩
 ·rw[hd]at h;exact⟨_,h,by simp⟩
theorem Pg {P:Program}{t:Nat}{ps:List (Nat×Value)}{K:Value->Prop}(h:mX P t ps K):∃v,K v/\mX P t ps (· = v):=by
 unfold mX at h ⊢;split at h
 ·split at h
  ·rename_i z hz;have key:∀{ps:List (Nat×Value)} {raw:Nat->Bool} {A:Prop},lH raw ps A->A/\∀B:Prop,B->lH raw ps B:=by
    intro ps raw
    induction ps with
    | nil=>intro A h;exact⟨h,λB b=>b⟩
    | cons x ps ih=>
     intro A h;simp only[lH]at h ⊢;cases hr:raw x.1
     ·rw[hr]at h;exact ih h
     ·rw[hr]at h;simp only[cond_true]at h ⊢;exact⟨(ih h.2).1,λB b=>⟨h.1,(ih h.2).2 B b⟩⟩
   obtain⟨h,a⟩:=key h;split at h
   ·rename_i cs hf;rw[Wu]at h;refine⟨_,h.2,?_⟩;simp only[*];refine a _ ?_;rw[Wu]
    first|exact⟨h.1,trivial⟩|exact⟨rfl,trivial⟩
   ·exact h.elim
  ·exact h.elim
 ·split at h
  ·split at h
   ·refine⟨_,h,?_⟩;simp only[*]
   ·exact h.elim
  ·exact h.elim
 ·exact h.elim
theorem Lo {P:Program}{t:Nat}{x:Value}{lo hi mx:Option Value}{K:Value->Prop}(h:nf P t x lo hi mx K):∃v,K v/\nf P t x lo hi mx (· = v):=by
 unfold nf at h ⊢;split at h
 case h_2=>exact h.elim
 rename_i e a n c hu;split at h
 case h_2=>exact h.elim
 rename_i ti hi';simp only at h ⊢;split at h
 case h_2=>exact h.elim
 rename_i l hh m hlo hhi hmx;obtain⟨g,j,i,d,b⟩:=h;refine⟨_,b,?_⟩;simp only[hu,hi',hlo,hhi,hmx];exact⟨g,j,i,d,rfl⟩
theorem A9:∀{vs:List Value} {v:Value} {b:Bool} {K:Value->Prop},om b v vs K->∃z,K z/\om b v vs (· = z)
 | [],v,b,K,h=>⟨v,by simpa[om]using h,by simp[om]⟩
 | u::vs,v,b,K,h=>by
  cases v<;>cases u<;>simp only[om]at h ⊢ <;> try exact h.elim
  exact A9 h
theorem JC {P:Program}{o:Op}(hp:HN P o=true){ρ:Env}{h:Hp}{K:Value->Prop}(hk:qK P o ρ h K):∃v,K v/\∀h',qK P o ρ h' (· = v):=by
 unfold qK at hk;split at hk
 case h_1 x=>obtain⟨v,a,e⟩:=ur hk;exact⟨v,a,λ_=>e⟩
 case h_2 x=>obtain⟨v,a,e⟩:=ur hk;exact⟨v,a,λ_=>e⟩
 case h_3 c x y=>
  obtain⟨v,A,hk⟩:=Wr hk;split at hk
  ·obtain⟨u,a,e⟩:=ur hk;exact⟨u,a,λ_=>by simpa only[qK,A,wv]using e⟩
  ·obtain⟨u,a,e⟩:=ur hk;exact⟨u,a,λ_=>by simpa only[qK,A,wv]using e⟩
  ·exact hk.elim
 case h_4=>simp[HN]at hp
 case h_5 x=>
  obtain⟨v,A,hk⟩:=Wr hk;split at hk
  ·obtain⟨C,rfl,p⟩:=hk;exact⟨_,p,λ_=>by simp only[qK,A,wv];exact⟨C,rfl,rfl⟩⟩
  ·exact⟨_,hk,λ_=>by simp only[qK,A,wv]⟩
  ·exact hk.elim
 case h_6 op t x y yt=>
  obtain⟨j,g,hk⟩:=Wr hk;obtain⟨N,G,E⟩:=Wr hk;obtain⟨v,a,e⟩:=O0 E;exact⟨v,a,λ_=>by simpa only[qK,g,G,wv]using e⟩
 case h_7 op t x=>
  obtain⟨j,g,hk⟩:=Wr hk;split at hk
  ·exact⟨_,hk,λ_=>by simp only[qK,g,wv]⟩
  ·exact⟨_,hk,λ_=>by simp only[qK,g,wv,Ar]⟩
  ·exact hk.elim
 case h_8 s d x=>
  obtain⟨j,g,hk⟩:=Wr hk;split at hk
  ·rename_i a e;exact⟨_,hk,λ_=>by simp only[qK,g,wv,a,e,Ar]⟩
  ·rename_i a e;exact⟨_,hk,λ_=>by simp only[qK,g,wv,a,e]⟩
  ·rename_i a e;simp[HN,a]at hp
  ·exact hk.elim
 case h_9 s x f=>
  obtain⟨j,g,hk⟩:=Wr hk;obtain⟨H,J,D,r,hk⟩:=Gg hk;split at hk
  ·rw[Wu]at hk;exact⟨_,hk.2,λ_=>by simp only[qK,g,wv,nb,D,r,Wu];exact⟨hk.1,trivial⟩⟩
  ·exact hk.elim
 case h_10 s x f=>
  obtain⟨j,g,hk⟩:=Wr hk;obtain⟨H,J,D,r,hk⟩:=Gg hk;split at hk
  ·obtain⟨v,a,e⟩:=OS hk;exact⟨v,a,λ_=>by simpa only[qK,g,wv,nb,D,r]using e⟩
  ·exact hk.elim
 case h_11 t x i=>
  obtain⟨j,g,hk⟩:=Wr hk;obtain⟨F,B,hk⟩:=Wr hk;split at hk
  ·have z:=(by assumption:P.underlying t=some _);rw[Wu]at hk;obtain⟨a,C,rfl,e,w,p⟩:=hk;exact⟨_,p,λ_=>by simp only[qK,g,B,wv,z,Wu];exact⟨a,C,rfl,e,w,rfl⟩⟩
  ·have z:=(by assumption:P.underlying t=some _);rw[Wu]at hk;obtain⟨a,e,w,p⟩:=hk;exact⟨_,p,λ_=>by simp only[qK,g,B,wv,z,Wu];exact⟨a,e,w,rfl⟩⟩
  ·exact hk.elim
 case h_12 t x i=>
  obtain⟨j,g,hk⟩:=Wr hk;obtain⟨F,B,hk⟩:=Wr hk;split at hk
  ·have z:=(by assumption:P.underlying t=some _);obtain⟨b,a,e,p⟩:=hk;exact⟨_,p,λ_=>by simp only[qK,g,B,wv,z];exact⟨b,a,e,rfl⟩⟩
  ·exact hk.elim
 case h_13=>simp[HN]at hp
 case h_14 t i=>
  obtain⟨j,g,hk⟩:=Wr hk;split at hk
  ·obtain⟨v,a,e⟩:=ur hk;exact⟨v,a,λ_=>by simpa only[qK,g,wv]using e⟩
  ·exact hk.elim
 case h_15 fn x y=>
  split at hk
  ·rename_i va vb a e;exact⟨_,hk,λ_=>by simp only[qK,a,e]⟩
  ·exact hk.elim
 case h_16 t ps=>
  split at hk
  ·rename_i vs a;obtain⟨v,e,w⟩:=Pg hk;exact⟨v,e,λ_=>by simpa only[qK,a]using w⟩
  ·exact hk.elim
 case h_17 t x lo B mx=>
  obtain⟨j,g,hk⟩:=Wr hk;split at hk
  ·rename_i l h m a e w;obtain⟨v,L,M⟩:=Lo hk;exact⟨v,L,λ_=>by simpa only[qK,g,wv,a,e,w]using M⟩
  ·exact hk.elim
 case h_18 t x=>
  obtain⟨j,g,hk⟩:=Wr hk;rw[Wu]at hk;exact⟨_,hk.2,λ_=>by simp only[qK,g,wv,Wu];exact⟨hk.1,trivial⟩⟩
 case h_19=>simp[HN]at hp
 case h_20 c=>
  split at hk
  ·rename_i x t hc ha ht;unfold lD at hk;split at hk
   ·exact⟨_,hk,λ_=>by simp only[qK,hc,ha,ht,lD, *]⟩
   ·exact⟨_,hk,λ_=>by simp only[qK,hc,ha,ht,lD, *]⟩
   ·exact⟨_,hk,λ_=>by simp only[qK,hc,ha,ht,lD, *]⟩
   ·rename_i z;simp only[HN,hc,ht,z]at hp;cases hp
   ·exact hk.elim
  ·rename_i hc ha ht;split at hk
   ·exact⟨_,hk,λ_=>by simp only[qK,hc,ha,ht, *]⟩
   ·exact hk.elim
  ·rename_i hc ha;obtain⟨v,a,e⟩:=A9 hk;exact⟨v,a,λ_=>by simpa only[qK,hc,ha]using e⟩
  ·rename_i hc ha;obtain⟨v,a,e⟩:=A9 hk;exact⟨v,a,λ_=>by simpa only[qK,hc,ha]using e⟩
  ·exact hk.elim
 ·exact hk.elim
def gC (S:aP)(c:CK)(a:Addr)(K:c.T->Prop):Prop:=∃x,(∀h,S h->cell h a=some (c.v x))/\K x
def sO (S:aP):List CK->Addr->Nat->(List Value->Prop)->Prop
 | [],_,_,K=>K []
 | c::cs,a,i,K=>gC S c (a.add i) λx=>sO S cs a (i+1) λvs=>K (c.v x::vs)
def N5 (S:aP)(k:IntKind)(c:CK)(m:Option Nat)(n:Int)(K:Option c.T->Prop):Prop:=∃l,(∀h,S h->jh h m k c l)/\K (bV l n)
def La (S:aP)(k:IntKind)(c:CK)(m:Option Nat)(K:Int->Prop):Prop:=∃l,(∀h,S h->jh h m k c l)/\K (l.length:Int)
def qS (P:Program)(S:aP)(o:Op)(ρ:Env)(K:Value->Prop):Prop:=
 match o with
 | .load t a=>wv (ev ρ a) λv=>match v,jM P t with
  | .pointer (some a),some (.one c)=>fN (P.info? t).isSome (gC S c a λx=>K (c.v x))
  | .pointer (some a),some (.agg cs)=>fN (P.cellsOf t==cs.length) (fN (P.info? t).isSome (sO S cs a 0 λvs=>K (.agg vs.toArray)))
  | _,_=>False
 | .lookup t x i ok=>wv (ev ρ x) λvx=>wv (ev ρ i) λvi=>match P.underlying t,vx,vi with
  | some (.map kt et),.map m,.int k n=>match P.underlying kt,oB P et,P.info? et with
   | some (.int k'),some (.one c),some ti=>match ti.zero with
    | some z=>if k=k' then mM c z λz=>N5 S k c m n λo=>K (bif ok then .tuple #[c.v (o.getD z),.bool o.isSome]else c.v (o.getD z))else False
    | none=>False
   | _,_,_=>False
  | _,_,_=>False
 | .call c=>match c.callee,pn ρ c.args.toList,c.argTypes.toList with
  | .builtin .len,some [.map m],[t]=>rk P t λk c=>La S k c m λz=>K (.int .i64 z)
  | _,_,_=>False
 | _=>False
theorem D7 {S:aP}:∀{cs:List CK} {a:Addr} {i:Nat} {K:List Value->Prop},sO S cs a i K->∃vs,K vs/\∀h,S h->nt cs a i h (· = vs)
 | [],a,i,K,hk=>⟨[],hk,λh _=>rfl⟩
 | c::cs,a,i,K,⟨x,hx,hk⟩=>by
  obtain⟨vs,hK,hall⟩:=D7 hk;refine⟨c.v x::vs,hK,λh b=>?_⟩;have e:nt cs a (i+1) h λus=>c.v x::us=c.v x::vs:=by
   have key:∀{cs:List CK} {i:Nat} {K K':List Value->Prop},(∀vs,K vs->K' vs)->nt cs a i h K->nt cs a i h K':=by
    intro cs
    induction cs with
    | nil=>intro i K K' hh hk;exact hh _ hk
    | cons c cs ih=>
     intro i K K' hh hk;simp only[nt]at hk ⊢;cases c<;>(obtain⟨y,g,hk⟩:=hk;exact⟨y,g,ih (λvs d=>hh _ d) hk⟩)
   exact key (λus m=>by rw[m]) (hall h b)
  simp only[nt];have j:=hx h b;cases c<;>exact⟨x,j,e⟩
theorem M6 {P:Program}{t:Nat}{K:IntKind->CK->Prop}(h:rk P t K):∃kt et k c,P.underlying t=some (.map kt et)/\P.underlying kt=some (.int k)/\oB P et=some (.one c)/\K k c:=by
 unfold rk at h;split at h
 ·split at h
  ·exact⟨_,_,_,_,by assumption,by assumption,by assumption,h⟩
  ·exact h.elim
 ·exact h.elim
theorem PN {P:Program}{S:aP}{o:Op}{ρ:Env}{K:Value->Prop}(hk:qS P S o ρ K):∃v,K v/\∀h,S h->qK P o ρ h (· = v):=by
 unfold qS at hk;split at hk
 ·obtain⟨R,r,hk⟩:=Wr hk;split at hk
  ·rename_i ad c hs;rw[Wu]at hk;obtain⟨u,x,B,d⟩:=hk;refine⟨_,d,λh b=>?_⟩;simp only[qK,r,wv,hs,Wu];refine⟨u,?_⟩;have C:=B h b;cases c<;>exact⟨x,C,rfl⟩
  ·rename_i ad cs hs;rw[Wu,Wu]at hk;obtain⟨u,G,hk⟩:=hk;obtain⟨vs,d,p⟩:=D7 hk;refine⟨_,d,λh b=>?_⟩;simp only[qK,r,wv,hs,Wu];refine⟨u,G,?_⟩;have key:∀{cs:List CK} {i:Nat} {K K':List Value->Prop},(∀vs,K vs->K' vs)->nt cs ad i h K->nt cs ad i h K':=by
    intro cs
    induction cs with
    | nil=>intro i K K' hh hk;exact hh _ hk
    | cons c cs ih=>
     intro i K K' hh hk;simp only[nt]at hk ⊢;cases c<;>(obtain⟨y,J,hk⟩:=hk;exact⟨y,J,ih (λvs D=>hh _ D) hk⟩)
   exact key (λus g=>by rw[g]) (p h b)
  ·exact hk.elim
 ·obtain⟨M,B,j⟩:=Wr hk;obtain⟨Q,F,a⟩:=Wr j;clear hk j;split at a
  case h_2=>exact a.elim
  rename_i E H m k n g;split at a
  case h_2=>exact a.elim
  rename_i k' c ti hkk hs hti;split at a
  case h_2=>exact a.elim
  rename_i z hz;split at a
  case isFalse=>exact a.elim
  rename_i e;subst e;obtain⟨N,rfl,l,A,d⟩:=Vw a;refine⟨_,d,λh b=>?_⟩;simp only[qK,B,F,wv,wU,g,hkk,hs,hti,hz,zR];have L:=A h b;rw[Nf];exact⟨l,L,rfl⟩
 ·split at hk
  ·rename_i m t C r ht;obtain⟨E,H,k,c,g,w,s,l,A,d⟩:=M6 hk;refine⟨_,d,λh b=>?_⟩;simp only[qK,C,r,ht,lD,g,w,s];exact⟨l,A h b,rfl⟩
  ·exact hk.elim
 ·exact hk.elim
structure ia (ops:Array Oper) (listed:Array Bool) (D:List Nat):Prop where
 size:listed.size=ops.size
 at_:∀j,j<ops.size->listed[j]?=some (D.contains j)
 lt:∀j∈D,j<ops.size
theorem ia.getD {ops:Array Oper}{listed:Array Bool}{D:List Nat}(h:ia ops listed D){j:Nat}(hj:j<ops.size)(b:Bool):listed.getD j b=D.contains j:=by
 rw[qL,h.at_ j hj];rfl
theorem ia.mU {ops:Array Oper}{listed:Array Bool}{D:List Nat}(h:ia ops listed D)(j:Nat):listed.getD j false=D.contains j:=by
 rcases kr j ops.size with hj|hj
 ·exact h.getD hj false
 ·rw[qL,Array.getElem?_eq_none (by rw[h.size];exact hj)]
  symm
  simp only[Option.getD_none,rJ,decide_eq_false_iff_not];exact λa=>by have:=h.lt j a;omega
theorem ia.start (ops:Array Oper):ia ops (Array.replicate ops.size false) []:=
 ⟨by simp,λj a=>by simp[a],λj a=>by simp at a⟩
theorem ia.cons {ops:Array Oper}{listed:Array Bool}{D:List Nat}(h:ia ops listed D){i:Nat}(hi:i<ops.size):ia ops (listed.setIfInBounds i true) (i::D):=by
 refine⟨by simp[h.size],λj a=>?_,λj a=>?_⟩
 ·by_cases hij:i=j
  ·subst hij;simp[h.size,a]
  ·rw[yk hij,h.at_ j a];have:(j==i)=false:=by simpa using λe=>hij e.symm
   simp only[List.contains_cons,this,yr]
 ·rcases zW.1 a with rfl|h'
  ·exact hi
  ·exact h.lt j h'
def mq (ops:Array Oper)(D:List Nat)(i:Nat):Bool:=match ops[i]? with
 | none=>false
 | some o=>!D.contains i&&o.after.toList.all λe=>!Region.binds .any e||D.contains e.on
def yY (ops:Array Oper)(D:List Nat)(i:Nat):Bool:=match ops[i]? with
 | none=>false
 | some oi=>(List.range ops.size).all λj=>Nat.beq j i||(D.contains j||match ops[j]? with
  | some oj=>oj.after.toList.any (λe=>Region.binds .any e&&Nat.beq e.on i)||oi.apart ops oj
  | none=>true)
theorem Ak {ops:Array Oper}{D:List Nat}{i:Nat}(h:mq ops D i=true):i<ops.size:=by
 unfold mq at h;split at h
 ·cases h
 ·rename_i o ho;exact(zt.1 ho).1
theorem Gf {ops:Array Oper}{listed:Array Bool}{D:List Nat}(h:ia ops listed D)(i:Nat):i∈Region.ready .any ops listed↔mq ops D i=true:=by
 rw[mem_ready];unfold mq;cases ho:ops[i]? with
 | none=>simp
 | some o=>
  have d:i<ops.size:=(zt.1 ho).1;simp only[h.getD d,Option.some.injEq,exists_eq_left',zF,l6,j8,nj];constructor
  ·rintro⟨h1,h2⟩;refine⟨h1,λe b=>?_⟩;cases a:Region.binds .any e
   ·exact .inl rfl
   ·right;have:=h2 e (by simpa using b) a
    rwa [h.mU]at this
  ·rintro⟨h1,h2⟩;refine⟨h1,λe b a=>?_⟩;have:=h2 e (by simpa using b);rw[a]at this;rw[h.mU];simpa using this
theorem He {ops:Array Oper}{listed:Array Bool}{D:List Nat}(h:ia ops listed D){i:Nat}(hf:yY ops D i=true):Region.free .any ops listed i=true:=by
 unfold yY at hf;unfold Region.free;cases ho:ops[i]? with
 | none=>rw[ho]at hf;cases hf
 | some oi=>
  rw[ho]at hf;simp only[j8,zg]at hf ⊢;intro j hj;have:=hf j hj;rw[h.getD hj];simp only[nj]at this ⊢;rcases this with h1|h1|h1
  ·exact .inl (.inl (by simpa using zy h1))
  ·exact .inl (.inr h1)
  ·right;split at h1
   ·rename_i oj hoj;simp only[hoj,nj]at h1 ⊢;rcases h1 with h1|h1
    ·left;rw[kb]at h1;obtain⟨e,b,a⟩:=h1;simp only[zF]at a;rw[Array.any_eq_true'];exact⟨e,by simpa using b,by simp[a.1,zy a.2]⟩
    ·exact .inr h1
   ·rename_i hoj;simp[hoj]
inductive SH where
 | done
 | take (i:Nat) (r:SH)
 | split (c:Nat) (t f:SH)
 | all (l:List (Nat×SH))
def SH.tk:List Nat->SH->SH
 |[],s=>s
 |i::l,s=>.take i (SH.tk l s)
def Sx (sm:Bool)(S:aP)(h:Hp)(X:Prop):Prop:=match sm with
 | true=>S h/\X
 | false=>X
def shut (C D:List Nat):Bool:=C.any λk=>D.contains k
def tn (f:Nat->SH->Prop):List (Nat×SH)->Prop
 | []=>True
 | [x]=>f x.1 x.2
 | x::y::l=>f x.1 x.2/\tn f (y::l)
def VY (P:Program)(N:Nat)(ops:Array Oper)(sm:Bool)(C:List Nat)(S:aP)(K:Env->Hp->Prop):Nat->Nat->SH->List Nat->Env->Hp->Prop
 | 0,_,_,_,_,_=>False
 | n+1,_,.done,D,ρ,h=>fN ((List.range ops.size).all λj=>D.contains j) (K ρ h)
 | n+1,m+1,.take i r,D,ρ,h=>match ops[i]? with
  | some o=>fN (mq ops D i&&(yY ops D i&&(qm N o.dst && !C.contains i)))
   (bif sr ops o ρ then VY P N ops sm C S K n m r (i::D) (ρ.hU o.dst undef) h
    else fN (HX ops o ρ) (bif HN P o.op then qK P o.op ρ h λv=>VY P N ops sm C S K n m r (i::D) (ρ.hU o.dst v) h
     else fN (sm&&((C.all λk=>wP ops k i) && !shut C D)) (qS P S o.op ρ λv=>VY P N ops sm C S K n m r (i::D) (ρ.hU o.dst v) h)))
  | none=>False
 | n+1,m,.split c t f,D,ρ,h=>Ue ρ (.tmp c) λb=>If b (VY P N ops sm C S K n m t D (ρ.put c (.bool true)) h) (VY P N ops sm C S K n m f D (ρ.put c (.bool false)) h)
 | n+1,m+1,.all l,D,ρ,h=>fN ((!l.isEmpty&&l.all λx=>Nat.blt x.1 ops.size)&&((List.range ops.size).all λj=>mq ops D j==l.any λx=>Nat.beq x.1 j))
  (tn (λi r=>match ops[i]? with
   | some o=>fN (qm N o.dst) (bif sr ops o ρ then Sx (sm && !shut C (i::D)) S h (VY P N ops sm C S K n m r (i::D) (ρ.hU o.dst undef) h)
    else fN (HX ops o ρ) (q9 P o.op o.type ρ h λv h'=>Sx (sm && !shut C (i::D)) S h' (VY P N ops sm C S K n m r (i::D) (ρ.hU o.dst v) h')))
   | none=>False) l)
 | _,_,_,_,_,_=>False
def eL (h:Hp)(body:(Hp->Prop)->Prop):Prop:=∃S:Hp->Prop,S h/\body S
theorem C5 {f:Nat->SH->Prop}:∀{l:List (Nat×SH)},tn f l->∀x∈l,f x.1 x.2
 | [],_,x,hx=>by simp at hx
 | [y],h,x,hx=>by simp at hx;subst hx;exact h
 | y::z::l,h,x,hx=>by
  rcases zW.1 hx with rfl|hx
  ·exact h.1
  ·exact C5 h.2 x hx
theorem vK {ds:List Nat}{ρ ρ':Env}{ops:Array Oper}{i:Nat}{o:Oper}(ho:ops[i]?=some o){v:Value}
 (k:∀j,(ops.toList.filterMap (·.dst)).contains j=false->∀u,(ρ.hU o.dst v) j=some u->ρ' j=some u):∀j,(ops.toList.filterMap (·.dst)).contains j=false->∀u,ρ j=some u->ρ' j=some u:=by
 intro j hj u hu;refine k j hj u ?_;cases hd:o.dst with
 | none=>exact hu
 | some d=>
  simp only[Env.hU,Env.put];cases hb:Nat.beq j d
  ·exact hu
  ·have e:j=d:=zy hb;subst e;exfalso;simp only[rJ,decide_eq_false_iff_not,wN,not_exists,not_and]at hj;refine hj o ?_ hd;have:=yv ho;simpa using this
def TD (S:aP)(C D:List Nat)(h:Hp):Prop:=S h\/shut C D=true
theorem TD.ts {S:aP}{C D:List Nat}{ops:Array Oper}{listed:Array Bool}{w:World}(hD:ia ops listed D)(h:TD S C D w.heap):TS (λw=>S w.heap) C listed w:=by
 refine h.imp id λa=>?_;unfold shut at a;rw[kb]at a;obtain⟨k,b,d⟩:=a;exact⟨k,b,by rw[hD.mU];exact d⟩
theorem Mo {C D:List Nat}{ops:Array Oper}{listed:Array Bool}(hD:ia ops listed D)(h:shut C D=false):∀k∈C,listed.getD k false=false:=by
 intro k hk;unfold shut at h;rw[mA]at h;rw[hD.mU];simpa using h k hk
theorem Ia {C D:List Nat}{i:Nat}(h:shut C D=true):shut C (i::D)=true:=by
 unfold shut at *;rw[kb]at *;obtain⟨k,a,b⟩:=h;refine⟨k,a,?_⟩;rw[wV]at *;exact nu _ b
theorem EE {sm:Bool}{S:aP}{C D:List Nat}{h:Hp}{X:Prop}(hs:sm=false->∀h,S h)(hx:Sx (sm && !shut C D) S h X):TD S C D h/\X:=by
 cases hc:shut C D
 ·rw[hc]at hx;simp only[wq,uh]at hx;cases sm
  ·exact⟨.inl (hs rfl h),hx⟩
  ·exact⟨.inl hx.1,hx.2⟩
 ·rw[hc]at hx;simp only[Bool.not_true,su]at hx;exact⟨.inr hc,hx⟩
theorem ZQ {P:Program}{N:Nat}{ops:Array Oper}{sm:Bool}{C:List Nat}{S:aP}{K:Env->Hp->Prop}{Qn:Act->World->Prop}(hsel:Region.noSelect ops=true)(hsm:sm=false->∀h,S h):∀(n m:Nat) {sh:SH} {D:List Nat} {ρ:Env} {a:Act} {w:World} {listed:Array Bool},
 VY P N ops sm C S K n m sh D ρ w.heap->Fits N ρ a->ia ops listed D->TD S C D w.heap->(∀ρ' a' w',Fits N ρ' a'->W7 w w'->Vx ops.toList ρ ρ'->K ρ' w'.heap->Qn a' w') →
 anyS P ops (λe a w=>match e with | .normal=>Qn a w|_=>False) (λw=>S w.heap) C m listed a w
 | 0,m,sh,D,ρ,a,w,listed,h,hf,hD,hS,hK=>(by simp only[VY]at h)
 | n+1,m,.done,D,ρ,a,w,listed,h,hf,hD,hS,hK=>by
  have h':fN ((List.range ops.size).all λj=>D.contains j) (K ρ w.heap):=by cases m<;>exact h
  rw[Wu]at h';refine Jq ?_ (hK ρ a w hf (.refl _) (λ_ _ _ h=>h) h'.2) m;rw[List.eq_nil_iff_forall_not_mem];intro j hj;have B:=(Gf hD j).1 hj;have:=j8.1 h'.1 j (zg.2 (Ak B));unfold mq at B;split at B
  ·cases B
  ·rw[this]at B;simp at B
 | n+1,0,.take i r,D,ρ,a,w,listed,h,hf,hD,hS,hK=>(by simp only[VY]at h)
 | n+1,m+1,.take i r,D,ρ,a,w,listed,h,hf,hD,hS,hK=>by
  simp only[VY]at h;split at h
  case h_2=>exact h.elim
  rename_i o ho;rw[Wu]at h;obtain⟨hc,h⟩:=h;simp only[zF,l6]at hc;obtain⟨hrd,V,s,L⟩:=hc;have H:=Ak hrd;have z:i∈Region.ready .any ops listed:=(Gf hD i).2 hrd;have p:TD S C (i::D) w.heap:=hS.imp id Ia;cases hg:sr ops o ρ
  ·rw[hg]at h;simp only[cond_false]at h;rw[Wu]at h;obtain⟨R,h⟩:=h;have hw:=Zd hf R;cases hp:HN P o.op
   ·rw[hp]at h;simp only[cond_false]at h;rw[Wu]at h;obtain⟨W,h⟩:=h;simp only[zF,l6,j8]at W;obtain⟨v,J,G⟩:=PN h;refine GJ (T:=λw=>S w.heap) ho hsel (He hD V) z (λ_ _ _ h=>h) L (.inr ⟨λ_ h=>h,W.2.1⟩) (.inr (Mo hD W.2.2)) (v:=v) (.inl ⟨hw,λw' p=>?_⟩) (hS.ts hD) ?_
    ·obtain⟨u,B,rfl⟩:=Gn hf.ev o (G w'.heap p);exact B
    ·exact ZQ hsel hsm n m J (hf.put s v) (hD.cons H) p λρ' a' w' d F E g=>hK ρ' a' w' d F (vK (ds:=[]) ho E) g
   ·rw[hp]at h;simp only[cond_true]at h;obtain⟨v,J,G⟩:=JC hp h;refine GJ (T:=λ_=>True) ho hsel (He hD V) z (λ_ _ _ h=>h) L (.inl λ_=>trivial) (.inl λ_=>trivial) (v:=v) (.inl ⟨hw,λw' _=>?_⟩) (hS.ts hD) ?_
    ·obtain⟨u,B,rfl⟩:=Gn hf.ev o (G w'.heap);exact B
    ·exact ZQ hsel hsm n m J (hf.put s v) (hD.cons H) p λρ' a' w' d F E g=>hK ρ' a' w' d F (vK (ds:=[]) ho E) g
  ·rw[hg]at h;simp only[cond_true]at h;refine GJ (T:=λ_=>True) ho hsel (He hD V) z (λ_ _ _ h=>h) L (.inl λ_=>trivial) (.inl λ_=>trivial) (v:=undef) (.inr ⟨Ky hf hg,rfl⟩) (hS.ts hD) ?_;exact ZQ hsel hsm n m h (hf.put s undef) (hD.cons H) p λρ' a' w' d F E g=>hK ρ' a' w' d F (vK (ds:=[]) ho E) g
 | n+1,m,.split c t f,D,ρ,a,w,listed,h,hf,hD,hS,hK=>by
  have h':Ue ρ (.tmp c) λb=>If b (VY P N ops sm C S K n m t D (ρ.put c (.bool true)) w.heap) (VY P N ops sm C S K n m f D (ρ.put c (.bool false)) w.heap):=by cases m<;>exact h
  obtain⟨b,hb,Z⟩:=Ki h';have A:=λe=>Z.t e;have h2:=λe=>Z.f e;have M:ρ c=some (.bool b):=hb;have kk:∀(b':Bool),b=b'->∀ρ',Vx ops.toList (ρ.put c (.bool b')) ρ'->Vx ops.toList ρ ρ':=by
   intro b' e ρ' k i H u hu;refine k i H u ?_;simp only[Env.put];cases hic:Nat.beq i c
   ·exact hu
   ·have e2:i=c:=zy hic;subst e2;rw[M]at hu;simp only[cond_true];rw[←e];exact hu
  cases b
  ·exact ZQ hsel hsm n m (h2 rfl) (hf.lit M rfl) hD hS λρ' a' w' d F E g=>hK ρ' a' w' d F (kk false rfl ρ' E) g
  ·exact ZQ hsel hsm n m (A rfl) (hf.lit M rfl) hD hS λρ' a' w' d F E g=>hK ρ' a' w' d F (kk true rfl ρ' E) g
 | n+1,0,.all l,D,ρ,a,w,listed,h,hf,hD,hS,hK=>(by simp only[VY]at h)
 | n+1,m+1,.all l,D,ρ,a,w,listed,h,hf,hD,hS,hK=>by
  simp only[VY]at h;rw[Wu]at h;obtain⟨hc,h⟩:=h;simp only[zF,l6,j8,zg,zT]at hc;obtain⟨⟨hne,hlt⟩,X⟩:=hc;have hmem:∀j,j∈Region.ready .any ops listed->∃r,(j,r)∈l:=by
   intro j hj;have B:=(Gf hD j).1 hj;have:=X j (Ak B);rw[B]at this;have:=kb.1 this.symm;obtain⟨x,hx,hb⟩:=this;have e:x.1=j:=zy hb;exact⟨x.2,by rw[←e];exact hx⟩
  refine PR (rs:=Region.ready .any ops listed) rfl ?_ λj hj=>?_
  ·intro hnil
   match l,hne with
   | x::l',_=>
    have hx:=Nat.blt_eq.mp (hlt x aA);have:=X x.1 hx;have Y:(x::l').any (λy=>Nat.beq y.1 x.1)=true:=kb.2 ⟨x,by simp,by simp⟩;rw[Y]at this;have:=(Gf hD x.1).2 this;rw[hnil]at this;simp at this
  ·obtain⟨r,B⟩:=hmem j hj;have A:=C5 h (j,r) B;simp only at A;split at A
   case h_2=>exact A.elim
   rename_i o ho;have H:j<ops.size:=(zt.1 ho).1;rw[Wu]at A;obtain⟨s,A⟩:=A;unfold wpOp;simp only[ho];cases hg:sr ops o ρ
   ·rw[hg]at A;simp only[cond_false]at A;rw[Wu]at A;obtain⟨R,A⟩:=A;rw[zC (Zd hf R)];refine .inl (QI.upon (Ul hf.ev o A) λv w' F J=>?_);obtain⟨p,J⟩:=EE hsm J;exact⟨p.ts (hD.cons H),ZQ hsel hsm n m J (hf.put s v) (hD.cons H) p λρ' a' Q d U E g=>hK ρ' a' Q d (F.trans U) (vK (ds:=[]) ho E) g⟩
   ·rw[hg]at A;simp only[cond_true]at A;rw[Ky hf hg];simp only[zc,zz];obtain⟨p,J⟩:=EE hsm A;exact⟨p.ts (hD.cons H),ZQ hsel hsm n m J (hf.put s undef) (hD.cons H) p λρ' a' Q d U E g=>hK ρ' a' Q d U (vK (ds:=[]) ho E) g⟩
def xZ (P:Program)(N:Nat)(sm:Bool)(C:List Nat)(sh:SH)(ops:Array Oper)(ρ:Env)(h:Hp)(K:Env->Hp->Prop):Prop:=
 match sm with
 | true=>eL h λS=>VY P N ops true C S K 400 ops.size sh [] ρ h
 | false=>VY P N ops false C (λ_=>True) K 400 ops.size sh [] ρ h
theorem Ub {P:Program}{N id:Nat}{ops:Array Oper}{sm:Bool}{C:List Nat}{sh:SH}{K:Env->Hp->Prop}{ρ:Env}{a:Act}{w:World}{Q:Exit->Act->World->Prop}
 (hm:P.follows .mixedOrders=true) (hsel:Region.noSelect ops=true) (h:xZ P N sm C sh ops ρ w.heap K)
 (hf:Fits N ρ a) (hK:∀ρ' a' w',Fits N ρ' a'->W7 w w'->Vx ops.toList ρ ρ'->K ρ' w'.heap->Q .normal a' w'):(Code.region id ops true).wp P Q a w:=by
 refine wp_mono (Q:=λe a w=>match e with | .normal=>Q .normal a w|_=>False) ?_ (λe a w j=>by cases e<;>first|exact j|exact j.elim)
 have hd:W7 w {w with drawn:=w.drawn+1}:=⟨rfl,rfl,rfl,zD _⟩;cases sm
 ·exact Ux (S:=λw=>True) hm (ZQ (S:=λ_=>True) (w:={w with drawn:=w.drawn+1}) (Qn:=Q .normal) hsel (λ_ _=>trivial) 400 ops.size h hf (ia.start ops) (.inl trivial) λρ' a' w' b g i d=>hK ρ' a' w' b (hd.trans g) i d)
 ·obtain⟨S,m,h⟩:=h;exact Ux hm (ZQ (S:=S) (w:={w with drawn:=w.drawn+1}) (Qn:=Q .normal) hsel (λe=>by cases e) 400 ops.size h hf (ia.start ops) (.inl m) λρ' a' w' b g i d=>hK ρ' a' w' b (hd.trans g) i d)
abbrev Js:=List (Nat×SK)
def lS (js:Js):List CK:=eR (js.map (·.2))
def sW (ρ:Env):Js->Option (List Value)
 | []=>some []
 | (i,.one _)::js=>match ρ i,sW ρ js with|some v,some vs=>some (v::vs)|_,_=>none
 | (i,.agg cs)::js=>match ρ i,sW ρ js with
  | some (.agg a),some vs=>bif a.size==cs.length then some (a.toList++vs)else none
  | _,_=>none
def rE (js:Js)(ρ:Env)(J:eO (lS js))(h:Hp):Prop:=match sW ρ js with
 | some vs=>rm (lS js) J vs h
 | none=>False
def im:Env->Js->List Value->Env
 | ρ,[],_=>ρ
 | ρ,(i,.one _)::js,v::vs=>im (ρ.put i v) js vs
 | ρ,(i,.one _)::js,[]=>im ρ js []
 | ρ,(i,.agg cs)::js,vs=>im (ρ.put i (.agg (vs.take cs.length).toArray)) js (vs.drop cs.length)
def Jn (ks:List CK)(K:eO ks)(body:eO ks->Prop):Prop:=∃J:eO ks,eO.le ks J K/\body J
theorem eO.le_refl:∀(ks:List CK) (R:eO ks),eO.le ks R R
 | [],_=>λ_ h=>h
 | _::cs,_=>λ_=>eO.le_refl cs _
theorem Jn.intro {ks:List CK}{K:eO ks}{body:eO ks->Prop}(h:body K):Jn ks K body:=⟨K,eO.le_refl ks K,h⟩
def mf (ds:List Nat)(i:Nat):Bool:=ds.contains i
def KF (ds:List Nat)(ρ ρ':Env):Prop:=∀i,ds.contains i=false->∀v,ρ i=some v->ρ' i=some v
theorem KF.trans {d1 d2:List Nat}{a b c:Env}(h:KF d1 a b)(k:KF d2 b c):KF (d1++d2) a c:=by
 intro i hi v hv;simp only[rJ,zK,decide_eq_false_iff_not,not_or]at hi;exact k i (by simpa using hi.2) v (h i (by simpa using hi.1) v hv)
theorem KF.mono {d1 d2:List Nat}{a b:Env}(h:KF d1 a b)(hs:∀i,i∈d1->i∈d2):KF d2 a b:=by
 intro i hi v hv;refine h i ?_ v hv;simp only[rJ,decide_eq_false_iff_not]at hi ⊢;exact λd=>hi (hs i d)
theorem KF.refl (ds:List Nat)(a:Env):KF ds a a:=λ_ _ _ h=>h
theorem Kd (ds:List Nat):∀(js:Js) (ρ:Env) (vs:List Value),(js.all λs=>mf ds s.1)=true->KF ds ρ (im ρ js vs)
 | [],ρ,vs,_=>by simp only[im];exact .refl _ _
 | (i,.one c)::js,ρ,[],h=>by
  simp only[tG,zF]at h;simp only[im];exact Kd ds js ρ [] h.2
 | (i,.one c)::js,ρ,v::vs,h=>by
  simp only[tG,zF]at h;simp only[im];intro j hj u hu;refine Kd ds js _ vs h.2 j hj u ?_;simp only[Env.put];cases hb:Nat.beq j i
  ·exact hu
  ·have e:j=i:=zy hb;subst e;simp only[mf]at h;rw[hj]at h;cases h.1
 | (i,.agg cs)::js,ρ,vs,h=>by
  simp only[tG,zF]at h;simp only[im];intro j hj u hu;refine Kd ds js _ _ h.2 j hj u ?_;simp only[Env.put];cases hb:Nat.beq j i
  ·exact hu
  ·have e:j=i:=zy hb;subst e;simp only[mf]at h;rw[hj]at h;cases h.1
theorem Q5 {N:Nat}:∀(js:Js) {ρ ρ':Env} {a:Act} {vs:List Value},Fits N ρ a->Fits N ρ' a->sW ρ' js=some vs->Fits N (im ρ js vs) a
 | [],ρ,ρ',a,vs,h,_,_=>h
 | (i,.one c)::js,ρ,ρ',a,vs,h,h',hv=>by
  simp only[sW]at hv;split at hv
  ·rename_i v vs' h1 h2;cases hv;simp only[im];refine Q5 js ⟨h.defers,h.size,λj u hu=>?_⟩ h' h2;simp only[Env.put]at hu;cases hb:Nat.beq j i
   ·rw[hb]at hu;exact h.at_ j u hu
   ·have e:j=i:=zy hb;subst e;rw[hb]at hu;simp only[cond_true,Option.some.injEq]at hu;subst hu;exact h'.at_ j _ h1
  ·cases hv
 | (i,.agg cs)::js,ρ,ρ',a,vs,h,h',hv=>by
  simp only[sW]at hv;split at hv
  ·rename_i ar vs' h1 h2;cases hs:(ar.size==cs.length)
   ·rw[hs]at hv;cases hv
   ·rw[hs]at hv;simp only[cond_true,Option.some.injEq]at hv;subst hv;have b:ar.toList.length=cs.length:=by simpa using hs
    simp only[im];rw[←b,List.take_left,List.drop_left];refine Q5 js ⟨h.defers,h.size,λj u hu=>?_⟩ h' h2;simp only[Env.put]at hu;cases hb:Nat.beq j i
    ·rw[hb]at hu;exact h.at_ j u hu
    ·have e:j=i:=zy hb;subst e;rw[hb]at hu;simp only[cond_true,Option.some.injEq]at hu;subst hu;simpa using h'.at_ j _ h1
  ·cases hv
theorem UK {js:Js}{ρ:Env}{J:eO (lS js)}{h:Hp}(hj:rE js ρ J h):∃vs,sW ρ js=some vs/\Sat (lS js) J vs h:=by
 unfold rE at hj;split at hj
 ·exact⟨_,by assumption,UF hj⟩
 ·exact hj.elim
theorem Vr {N:Nat}{ds:List Nat}{ρ ρ':Env}{a:Act}(h:Fits N ρ' a)(k:KF ds ρ ρ'):Fits N (ρ.dS ds) a:=by
 refine h.weaken λi v b=>?_;simp only[Env.dS]at b;cases hc:ds.contains i
 ·rw[hc]at b;exact k i hc v b
 ·rw[hc]at b;cases b
theorem Uq (ds:List Nat)(ρ:Env):KF ds ρ (ρ.dS ds):=by
 intro i hi v hv;simp only[Env.dS,hi];exact hv
def xO:Op->Bool
 | .pick .. => true
 | _=>false
def kc (os:List Oper):Bool:=os.all λo=>sq o.op||xO o.op
theorem Vt {P:Program}{N:Nat}{ops:Array Oper}{Q:Act->Prop}{w:World}:∀(n:Nat) {hs:List RI} {os:List Oper} {tail:List Oper} {ρ:Env} {a:Act} {K:Env->Hp->Prop},
 eB P N ops n hs os ρ w.heap K->kc os=true->Fits N ρ a->(∀ρ' a',Fits N ρ' a'->Vx os ρ ρ'->K ρ' w.heap->wpStill P ops w Q tail a')->wpStill P ops w Q (os++tail) a
 | 0,_,_,_,_,_,_,h,_,_,_=>(by simp only[eB]at h)
 | n+1,[],[],tail,ρ,a,K,h,hq,hf,hK=>by
  simp only[eB]at h;exact hK ρ a hf (λ_ _ _ h=>h) h
 | n+1,[],o::os,tail,ρ,a,K,h,hq,hf,hK=>(by simp only[eB]at h)
 | n+1,.op::hs,[],tail,ρ,a,K,h,hq,hf,hK=>(by simp only[eB]at h)
 | n+1,.it ki c::hs,[],tail,ρ,a,K,h,hq,hf,hK=>(by simp only[eB]at h)
 | n+1,.it ki c::hs,o::os,tail,ρ,a,K,h,hq,hf,hK=>by
  simp only[eB]at h;rw[Wu]at h;simp only[kc,tG,zF,nj]at hq;have h2:=h.2;unfold xp at h2;split at h2
  ·rename_i heq;rw[heq]at hq;simp[sq,xO]at hq
  ·rename_i heq;rw[heq]at hq;simp[sq,xO]at hq
  ·exact h2.elim
 | n+1,.op::hs,o::os,tail,ρ,a,K,h,hq,hf,hK=>by
  simp only[eB]at h;rw[Wu]at h;obtain⟨C,h⟩:=h;simp only[zF]at C;have U:=Zd hf C.1;simp only[kc,tG,zF,nj]at hq;have V:sq o.op=true:=by
   rcases hq.1 with h1|h1
   ·exact h1
   ·unfold xO at h1;split at h1
    ·rename_i heq;rw[heq];rfl
    ·cases h1
  unfold q9 at h;rw[V]at h;obtain⟨v,hr,u⟩:=Gn hf.ev o h;simp only[kZ,wpStill,U,zR,Oper.still,hr,Oper.stillUpon];exact⟨trivial,Vt n u (by simpa[kc]using hq.2) (hf.put C.2 v) λρ' a' g E A=>hK ρ' a' g E.cons A⟩
 | n+1,.cX and m inner::hs,os,tail,ρ,a,K,h,hq,hf,hK=>by
  simp only[eB]at h;split at h
  case h_2=>exact h.elim
  rename_i pk rest hdrop;split at h
  case h_2=>exact h.elim
  rename_i c x y d hop hd;split at h
  case h_2=>exact h.elim
  rename_i b hb;rw[Wu]at h;obtain⟨C,J,hJ,h⟩:=h;simp only[zF]at C;obtain⟨W,H,hpk,aa,s⟩:=C;have S:os++tail=os.take m++(pk::rest++tail):=by
   rw[←hdrop,←j3,nH]
  have Z:kc (os.take m)=true:=by
   rw[kc,j8]at hq ⊢;exact λo X=>hq o (vp X)
  have R:kc rest=true:=by
   rw[kc,j8]at hq ⊢;exact λo X=>hq o (sv (i:=m) (by rw[hdrop];exact nu _ X))
  rw[S];have j:∀(r b':Bool) (z:Operand) a',b=b'->(bif b' then x else y)=z->Fits N (ρ.dS ((os.take m).filterMap (·.dst))) a'->J r w.heap->Region.wanted pk (yielded ops a'.tmps)=true →
   a'.eval (.tmp c)=.bool b'->a'.eval z=.bool r->wpStill P ops w Q (pk::rest++tail) a':=by
   intro r b' z a' e ez g L U B hez;have D:(execOp a'.eval pk).run P w=.ok (.value (.bool r)) w:=by
    obtain⟨dst,op,ty,pos,aft,M⟩:=pk;simp only at hop;subst hop;subst ez;cases b'<;>simp at hez<;>simp[execOp,B,asBool,hez]
   simp only[kZ,wpStill,U,zR,Oper.still,D,Oper.stillUpon];have hfp:=g.put (d:=some d) W (.bool r);rw[hd];exact⟨trivial,Vt n (hJ _ _ L) R hfp λρ' a'' F E A=>hK ρ' a'' F (Vx.cX hd hdrop E) A⟩
  have run:∀(b':Bool) (z:Operand),b=b'->(bif b' then x else y)=z →
   eB P N ops n inner (os.take m) (ρ.put c (.bool b')) w.heap (λρ' h'=>fN (HX ops pk ρ'&&rK ρ' c b') (Ue ρ' z λr=>J r h'))->wpStill P ops w Q (os.take m++(pk::rest++tail)) a:=by
   intro b' z e ez hseg;refine Vt n hseg Z (hf.lit hb e) λρ' a' g E u=>?_;rw[Wu]at u;simp only[zF]at u;obtain⟨⟨hg,Y⟩,u⟩:=u;obtain⟨r,hr,L⟩:=Ki u;exact j r b' z a' e ez (g.tV hb e E) L (Zd g hg) (g.ev _ _ (Uo Y)) (g.ev _ _ hr)
  have p:∀(b':Bool),b=b'->b' = !and->J (!and) w.heap->wpStill P ops w Q (os.take m++(pk::rest++tail)) a:=by
   intro b' e eb L;subst eb;refine Cj s (hf.lit hb e) λa' g=>?_;have G:Fits N (ρ.dS ((os.take m).filterMap (·.dst))) a':=g.tV (ρ':=(ρ.put c (.bool (!and))).dS ((os.take m).filterMap (·.dst))) hb e (λi hi v hv=>by simp only[Env.dS,hi];exact hv);have B:=g.ev (.tmp c) _ (Uo aa);refine j (!and) (!and) (bif (!and)then x else y) a' e rfl G L (Zd G hpk) B ?_;refine Bg ?_ _ (λv=>rfl);cases and<;>exact H
  cases and
  ·simp only[cond_false]at h;cases b
   ·exact run false y rfl rfl (h.f rfl)
   ·exact p true rfl rfl (h.t rfl)
  ·simp only[cond_true]at h;cases b
   ·exact p false rfl rfl (h.f rfl)
   ·exact run true x rfl rfl (h.t rfl)
inductive RH where
 | seq (hs:List RI)
 | quiet (hs:List RI)
 | tail (n:Nat) (hs1 hs2:List RI)
 | held (sm:Bool) (C:List Nat) (sh:SH)
 | hO (sm:Bool) (C:List Nat) (js:Js) (sh:SH)
def tO (ops:Array Oper):List Nat:=ops.toList.filterMap (·.dst)
def l8 (P:Program)(N:Nat)(r:RH)(ops:Array Oper)(draw:Bool)(ρ:Env)(h:Hp)(K:Env->Hp->Prop):Prop:=
 match r,draw with
 | .seq hs,false=>eB P N ops 400 hs ops.toList ρ h K
 | .quiet hs,true=>fN (P.follows .mixedOrders&&(Region.lexB .any ops&&kc ops.toList)) (eB P N ops 400 hs ops.toList ρ h K)
 | .tail n hs1 hs2,true=>fN (P.follows .mixedOrders&&(Region.lexTailB .any ops n&&kc (ops.toList.take n)))
  (eB P N ops 400 hs1 (ops.toList.take n) ρ h λρ' h'=>eB P N ops 400 hs2 (ops.toList.drop n) ρ' h' K)
 | .held sm C sh,true=>fN (P.follows .mixedOrders&&Region.noSelect ops) (xZ P N sm C sh ops ρ h K)
 | .hO sm C js sh,true=>fN (P.follows .mixedOrders&&(Region.noSelect ops&&js.all λs=>mf (tO ops) s.1))
  (Jn (lS js) (lam (lS js) λvs h'=>K (im (ρ.dS (tO ops)) js vs) h') λJ=>xZ P N sm C sh ops ρ h λρ' h'=>rE js ρ' J h')
 | _,_=>False
theorem Ed {P:Program}{N id:Nat}{r:RH}{ops:Array Oper}{draw:Bool}{ρ:Env}{a:Act}{w:World}{K:Env->Hp->Prop}{Q:Exit->Act->World->Prop}
 (h:l8 P N r ops draw ρ w.heap K) (hf:Fits N ρ a) (hK:∀ρ' a' w',Fits N ρ' a'->W7 w w'->Vx ops.toList ρ ρ'->K ρ' w'.heap->Q .normal a' w'):(Code.region id ops draw).wp P Q a w:=by
 unfold l8 at h;split at h
 ·rename_i C;refine wp_region_list ?_;have:=Ke (Q:=Q) (tail:=[]) 400 h hf λρ' a' w' d s j e=>hK ρ' a' w' d s j e;simpa using this
 ·rename_i C;rw[Wu]at h;simp only[zF]at h;obtain⟨⟨m,G,B⟩,h⟩:=h;refine wp_region_still m G ?_;have:=Vt (w:={w with drawn:=w.drawn+1}) (Q:=λa'=>Q .normal a' {w with drawn:=w.drawn+1}) (tail:=[]) 400 h B hf λρ' a' d j e=>hK ρ' a' _ d ⟨rfl,rfl,rfl,zD _⟩ j e;simpa using this
 ·rename_i n hs1 hs2;rw[Wu]at h;simp only[zF]at h;obtain⟨⟨m,G,B⟩,h⟩:=h;obtain⟨l,rfl⟩:∃l:List Oper,ops=l.toArray:=⟨ops.toList,by simp⟩;refine wp_region_still_tail n m G ?_;have:=Vt (w:={w with drawn:=w.drawn+1}) (ops:=l.toArray) (Q:=λa'=>wpList P l.toArray Q (l.drop n) a' {w with drawn:=w.drawn+1}) (tail:=[]) 400 h (by simpa using B) hf (λρ' a' d j e=>by
   have:=Ke (Q:=Q) (tail:=[]) (w:={w with drawn:=w.drawn+1}) 400 e d λA H y u s D z=>hK A H y u (W7.trans (b:={w with drawn:=w.drawn+1}) ⟨rfl,rfl,rfl,zD _⟩ s) (λi g v x=>?_) z
   ·simpa[wpStill]using this
   ·rw[show l.toArray.toList=l.take n++l.drop n by simp,vA]at g;simp only[rJ,zK,decide_eq_false_iff_not,not_or]at g;exact D i (by simpa using g.2) v (j i (by simpa using g.1) v x))
  simpa using this
 ·rename_i sm sh;rw[Wu]at h;simp only[zF]at h;exact Ub h.1.1 h.1.2 h.2 hf hK
 ·rename_i sm js sh;rw[Wu]at h;simp only[zF]at h;obtain⟨⟨m,p,F⟩,J,L,h⟩:=h;refine Ub m p h hf λρ' a' w' d s j e=>?_;obtain⟨vs,x,C⟩:=UK e;have E:=VB (C.mono L);refine hK _ a' w' (Q5 js (Vr d j) d x) s ?_ E;exact((Uq (tO ops) ρ).trans (Kd (tO ops) js (ρ.dS (tO ops)) vs F)).mono λi g=>by
   simp only[zK]at g;rcases g with h|h<;>exact h
 ·exact h.elim
def fK:Code->List Nat
 | .region _ ops _=>tO ops
 | .seq a b=>fK a++fK b
 | .cond _ a b=>fK a++fK b
 | .block _ b=>fK b
 | .loop b=>fK b
 | .scope b=>fK b
 | _=>[]
def HR:(ks:List CK)->eO ks->oT ks->(Nat->Prop)->eO ks
 | [],I,μ,p=>λh=>I h/\p (μ h)
 | c::cs,I,μ,p=>λx=>HR cs (I x) (μ x) p
def Yo (ks:List CK)(start:eO ks->Prop)(round:eO ks->eO ks):Prop:=
 ∃(I:eO ks) (μ:oT ks),start I/\∀m:Nat,eO.le ks (HR ks I μ (· = m)) (round (HR ks I μ (· < m)))
inductive Hn where
 | leaf
 | cR (r:RH)
 | seq (a b:Hn)
 | ka (js:Js) (a b:Hn)
 | cond (a b:Hn)
 | block (b:Hn)
 | loop (js:Js) (b:Hn)
 | scope (b:Hn)
def RI.ops:Nat->List RI
 | 0=>[]
 | n+1=>.op::RI.ops n
abbrev Hn.l:Hn:=.leaf
abbrev Hn.q (a b:Hn):Hn:=.seq a b
abbrev Hn.c (a b:Hn):Hn:=.cond a b
abbrev Hn.k (a:Hn):Hn:=.block a
def Hn.o (n:Nat):Hn:=.cR (.seq (RI.ops n))
abbrev Hn.o1:Hn:=.o 1
abbrev Hn.o2:Hn:=.o 2
abbrev Hn.aJ:Hn:=.c (.q .o2 .l) .l
abbrev Hn.aK:Hn:=.c (.q .o1 .l) .l
abbrev Hn.aL:Hn:=.q .o2 .l
abbrev Hn.aM:Hn:=.q .o1 .l
abbrev Hn.o3:Hn:=.o 3
abbrev Hn.o4:Hn:=.o 4
abbrev Hn.o5:Hn:=.o 5
abbrev Hn.o6:Hn:=.o 6
abbrev Hn.o7:Hn:=.o 7
abbrev Hn.o8:Hn:=.o 8
abbrev Hn.o9:Hn:=.o 9
abbrev Hn.gQ:Hn:=.o 10
def Hn.oq (n:Nat):Hn:=.cR (.quiet (RI.ops n))
def tF (next:Env->Hp->Prop)(Q:Exit->Env->Hp->Prop):Exit->Env->Hp->Prop
 | .normal,ρ,h=>next ρ h
 | e,ρ,h=>Q e ρ h
def vE (id:Nat)(Q:Exit->Env->Hp->Prop):Exit->Env->Hp->Prop
 | .exit i,ρ,h=>match Nat.beq i id with
  | true=>Q .normal ρ h
  | false=>Q (.exit i) ρ h
 | e,ρ,h=>Q e ρ h
def Lt (Q:Exit->Env->Hp->Prop):Exit->Env->Hp->Prop
 | .goto _,_,_=>False
 | e,ρ,h=>Q e ρ h
def iA (P:Program)(N:Nat):Code->Hn->(Exit->Env->Hp->Prop)->Env->Hp->Prop
 | .skip,_,Q,ρ,h=>Q .normal ρ h
 | .ret,_,Q,ρ,h=>Q .ret ρ h
 | .exit id,_,Q,ρ,h=>Q (.exit id) ρ h
 | .region _ ops d,.cR r,Q,ρ,h=>l8 P N r ops d ρ h λρ' h'=>Q .normal ρ' h'
 | .seq a b,.seq x y,Q,ρ,h=>iA P N a x (tF (λρ' h'=>iA P N b y Q ρ' h') Q) ρ h
 | .seq a b,.ka js x y,Q,ρ,h=>fN (js.all λs=>mf (fK a) s.1)
  (Jn (lS js) (lam (lS js) λvs h'=>iA P N b y Q (im (ρ.dS (fK a)) js vs) h') λJ=>iA P N a x (tF (λρ' h'=>rE js ρ' J h') Q) ρ h)
 | .cond c a b,.cond x y,Q,ρ,h=>Ue ρ c λt=>If t (iA P N a x Q ρ h) (iA P N b y Q ρ h)
 | .block id b,.block x,Q,ρ,h=>iA P N b x (vE id Q) ρ h
 | .scope b,.scope x,Q,ρ,h=>iA P N b x (Lt Q) ρ h
 | .label _,_,Q,ρ,h=>Q .normal ρ h
 | .loop b,.loop js x,Q,ρ,h=>fN (js.all λs=>mf (fK b) s.1)
  (Yo (lS js) (λI=>rE js ρ I h) λJ=>lam (lS js) λvs h'=>iA P N b x (tF (λρ' h''=>rE js ρ' J h'') Q) (im (ρ.dS (fK b)) js vs) h')
 | _,_,_,_,_=>False
theorem HM:∀{ks:List CK} {I:eO ks} {μ:oT ks} {p:Nat->Prop} {vs:List Value} {h:Hp},Sat ks (HR ks I μ p) vs h->∃n,p n/\Sat ks (HR ks I μ (· = n)) vs h
 | [],I,μ,p,[],h,hs=>⟨μ h,hs.2,hs.1,rfl⟩
 | c::cs,I,μ,p,v::vs,h,⟨x,e,hs⟩=>by
  obtain⟨n,hp,hn⟩:=HM (I:=I x) (μ:=μ x) hs;exact⟨n,hp,x,e,hn⟩
 | [],I,μ,p,_::_,h,hs=>hs.elim
 | _::_,I,μ,p,[],h,hs=>hs.elim
theorem UG:∀{ks:List CK} {I:eO ks} (μ:oT ks) {vs:List Value} {h:Hp},Sat ks I vs h->∃n,Sat ks (HR ks I μ (· = n)) vs h
 | [],I,μ,[],h,hs=>⟨μ h,hs,rfl⟩
 | c::cs,I,μ,v::vs,h,⟨x,e,hs⟩=>by
  obtain⟨n,hn⟩:=UG (I:=I x) (μ x) hs;exact⟨n,x,e,hn⟩
 | [],I,μ,_::_,h,hs=>hs.elim
 | _::_,I,μ,[],h,hs=>hs.elim
theorem A8 {p:Nat->Prop}(h:∃n,p n):∃n,p n/\∀m,p m->n<=m:=by
 obtain⟨n,d⟩:=h
 induction n using Nat.strongRecOn with
 | _ n ih=>
  by_cases hm:∃m,m<n/\p m
  ·obtain⟨m,a,b⟩:=hm;exact ih m a b
  ·exact⟨n,d,λm b=>Nat.le_of_not_lt λa=>hm ⟨m,a,b⟩⟩
open Classical in
noncomputable def tP (p:Nat->Prop):Nat:=if h:∃n,p n then(A8 h).choose else 0
theorem GT {p:Nat->Prop}(h:∃n,p n):p (tP p):=by
 unfold tP;rw[dif_pos h];exact(A8 h).choose_spec.1
theorem C2 {p:Nat->Prop}{n:Nat}(h:p n):tP p<=n:=by
 unfold tP;rw[dif_pos ⟨n,h⟩];exact(A8 ⟨n,h⟩).choose_spec.2 n h
theorem Om {P:Program}{c:Code}{Q:Exit->Act->World->Prop}{a:Act}{w:World}(I:Nat->Act->World->Prop)(h0:∃n,I n a w)
 (round:∀n a w,I n a w->c.wp P (Exit.then (λa' w'=>∃m,m<n/\I m a' w') Q) a w):(Code.loop c).wp P Q a w:=by
 refine wp_loop (λa w=>∃n,I n a w) (λa w=>tP λn=>I n a w) h0 λa w g=>?_;refine wp_mono (round _ a w (GT g)) λe a' w' d=>?_;cases e<;>try exact d
 obtain⟨m,i,b⟩:=d;exact⟨⟨m,b⟩,A0 (C2 b) i⟩
theorem Qi {P:Program}{N:Nat}:∀(c:Code) {x:Hn} {Q:Exit->Env->Hp->Prop} {Q':Exit->Act->World->Prop} {ρ:Env} {a:Act} {w:World},
 iA P N c x Q ρ w.heap->Fits N ρ a->(∀e ρ' a' w',Fits N ρ' a'->W7 w w'->KF (fK c) ρ ρ'->Q e ρ' w'.heap->Q' e a' w')->c.wp P Q' a w
 | .skip,x,Q,Q',ρ,a,w,h,hf,hq=>by
  have h':Q .normal ρ w.heap:=by cases x<;>exact h
  exact wp_skip (hq _ ρ a w hf (.refl _) (.refl _ _) h')
 | .ret,x,Q,Q',ρ,a,w,h,hf,hq=>by
  have h':Q .ret ρ w.heap:=by cases x<;>exact h
  exact wp_ret (hq _ ρ a w hf (.refl _) (.refl _ _) h')
 | .exit id,x,Q,Q',ρ,a,w,h,hf,hq=>by
  have h':Q (.exit id) ρ w.heap:=by cases x<;>exact h
  exact wp_exit (hq _ ρ a w hf (.refl _) (.refl _ _) h')
 | .region id ops d,x,Q,Q',ρ,a,w,h,hf,hq=>by
  cases x<;>simp only[iA]at h
  exact Ed h hf λρ' a' w' b p r j=>hq _ ρ' a' w' b p r j
 | .seq c1 c2,x,Q,Q',ρ,a,w,h,hf,hq=>by
  cases x<;>simp only[iA]at h
  case seq x y=>
   refine wp_seq (Qi c1 h hf λe ρ' a' w' b p r j=>?_);cases e
   case normal=>exact Qi c2 j b λe ρ'' A z g u C D=>hq e ρ'' A z g (p.trans u) (r.trans C) D
   all_goals exact hq _ ρ' a' w' b p (r.mono λi s=>kv _ s) j
  case ka js x y=>
   rw[Wu]at h;obtain⟨F,J,Y,h⟩:=h;refine wp_seq (Qi c1 h hf λe ρ' a' w' b p r j=>?_);cases e
   case normal=>
    obtain⟨vs,K,G⟩:=UK j;have E:=VB (G.mono Y);have M:=Q5 js (Vr b r) b K;refine Qi c2 E M λe ρ'' A z g u C D=>hq e ρ'' A z g (p.trans u) ?_ D;have Z:=(Uq (fK c1) ρ).trans (Kd (fK c1) js (ρ.dS (fK c1)) vs F);exact(Z.trans C).mono λi s=>by
     simp only[fK,zK]at s ⊢;rcases s with(h|h)|h
     ·exact Or.inl h
     ·exact Or.inl h
     ·exact Or.inr h
   all_goals exact hq _ ρ' a' w' b p (r.mono λi s=>kv _ s) j
 | .cond c c1 c2,x,Q,Q',ρ,a,w,h,hf,hq=>by
  cases x<;>simp only[iA]at h
  obtain⟨t,ht,h⟩:=Ki h;refine wp_cond_split (hf.ev _ _ ht) (λe=>?_) (λe=>?_)
  ·exact Qi c1 (h.t e) hf λe ρ' a' w' b p r j=>hq e ρ' a' w' b p (r.mono λi s=>kv _ s) j
  ·exact Qi c2 (h.f e) hf λe ρ' a' w' b p r j=>hq e ρ' a' w' b p (r.mono λi s=>nF _ s) j
 | .block id c1,x,Q,Q',ρ,a,w,h,hf,hq=>by
  cases x<;>simp only[iA]at h
  refine wp_block (Qi c1 h hf λe ρ' a' w' b p r j=>?_);cases e
  case exit i=>
   simp only[vE]at j;simp only[Exit.inBlock];split at j
   ·rename_i e;have L:i=id:=zy e;rw[zC L];exact hq _ ρ' a' w' b p r j
   ·rename_i e;have L:i≠id:=λh=>by subst h;simp at e
    rw[zB L];exact hq _ ρ' a' w' b p r j
  all_goals exact hq _ ρ' a' w' b p r j
 | .loop c1,x,Q,Q',ρ,a,w,h,hf,hq=>by
  cases x<;>simp only[iA]at h
  rename_i js x;rw[Wu]at h;obtain⟨F,I,μ,G,X⟩:=h;refine Om (λn a' w'=>∃vs,Fits N (im (ρ.dS (fK c1)) js vs) a'/\W7 w w'/\Sat (lS js) (HR (lS js) I μ (· = n)) vs w'.heap) ?_ ?_
  ·obtain⟨vs,K,G⟩:=UK G;obtain⟨n,U⟩:=UG μ G;exact⟨n,vs,Q5 js (hf.weaken (GB _ _)) hf K,.refl _,U⟩
  ·rintro n a' w' ⟨vs,b,p,U⟩;have:=VB (U.mono (X n));have W:=(Uq (fK c1) ρ).trans (Kd (fK c1) js (ρ.dS (fK c1)) vs F);refine Qi c1 this b λe ρ'' A z g u r j=>?_;have B:KF (fK c1) ρ ρ'':=(W.trans r).mono λi s=>by
    simp only[zK]at s;rcases s with(h|h)|h<;>exact h
   cases e
   case normal=>
    obtain⟨S,R,E⟩:=UK j;obtain⟨m,V,H⟩:=HM E;exact⟨m,V,S,Q5 js (Vr g B) g R,p.trans u,H⟩
   all_goals exact hq _ ρ'' A z g (p.trans u) B j
 | .scope c1,x,Q,Q',ρ,a,w,h,hf,hq=>by
  cases x<;>simp only[iA]at h
  refine wp_scope_straight (Qi c1 h hf λe ρ' a' w' b p r j=>?_);cases e
  case goto l=>exact j.elim
  all_goals exact hq _ ρ' a' w' b p r j
 | .label l,x,Q,Q',ρ,a,w,h,hf,hq=>by
  have h':Q .normal ρ w.heap:=by cases x<;>exact h
  exact wp_label (hq _ ρ a w hf (.refl _) (.refl _ _) h')
 | .rangeFunc ..,x,Q,Q',ρ,a,w,h,hf,hq=>(by cases x<;>simp only[iA]at h)
 | .goto ..,x,Q,Q',ρ,a,w,h,hf,hq=>(by cases x<;>simp only[iA]at h)
 | .refuse ..,x,Q,Q',ρ,a,w,h,hf,hq=>(by cases x<;>simp only[iA]at h)
def oS (P:Program)(r:ResultVar)(s:SK)(ρ:Env)(h:Hp)(K:List Value->Prop):Prop:=
 match r,s with
 | .tmp t,.one _=>wv (ρ t) λv=>K [v]
 | .tmp t,.agg cs=>wv (ρ t) λv=>match v with
  | .agg a=>fN (a.size==cs.length) (K a.toList)
  | _=>False
 | .cell a t,.one c=>wv (ρ a) λv=>match v,jM P t with
  | .pointer (some ad),some (.one _)=>ye c ad h λx=>K [c.v x]
  | _,_=>False
 | .cell a t,.agg cs=>wv (ρ a) λv=>match v,jM P t with
  | .pointer (some ad),some (.agg _)=>fN (P.cellsOf t==cs.length&&(P.info? t).isSome) (nt cs ad 0 h λvs=>K vs)
  | _,_=>False
def lf (P:Program):List ResultVar->List SK->Env->Hp->(List Value->Prop)->Prop
 | [],[],_,_,K=>K []
 | r::rs,s::ss,ρ,h,K=>oS P r s ρ h λvs=>lf P rs ss ρ h λus=>K (vs++us)
 | _,_,_,_,_=>False
def nW (P:Program)(fn:Func)(rs:List SK)(R:eO (eR rs)):Exit->Env->Hp->Prop
 | .normal,ρ,h=>lf P fn.results.toList rs ρ h λvs=>rm (eR rs) R vs h
 | .ret,ρ,h=>lf P fn.results.toList rs ρ h λvs=>rm (eR rs) R vs h
 | _,_,_=>False
def HT (vs:List Value):Env:=λi=>vs[i]?
def DP (P:Program)(fn:Func)(x:Hn)(args:List Value)(rs:List SK)(R:eO (eR rs))(h:Hp):Prop:=
 match fn.body with
 | some c=>fN (Nat.ble args.length fn.ntmps) (iA P fn.ntmps c x (nW P fn rs R) (HT args) h)
 | none=>False
def UE:SK->List Value->Value
 | .one _,[v]=>v
 | .one _,_=>undef
 | .agg _,vs=>.agg vs.toArray
def G3 (tmps:Array Value):ResultVar->Sem Value
 | .tmp t=>pure (tmps.getD t undef)
 | .cell b t=>do loadVar t (←asAddr (tmps.getD b undef))
theorem Ju (fn:Func)(tmps:Array Value):results fn tmps=(do
 let vs ←fn.results.mapM (G3 tmps)
 pure (if h:vs.size=1 then vs[0]else .tuple vs)):=by
 unfold results
 congr 1
theorem MW {P:Program}{r:ResultVar}{s:SK}{ρ:Env}{K:List Value->Prop}{a:Act}{N:Nat}{w:World}(hf:Fits N ρ a)(h:oS P r s ρ w.heap K) :
 ∃vs,vs.length=s.ks.length/\K vs/\(G3 a.tmps r).run P w=.ok (UE s vs) w:=by
 unfold oS at h;split at h
 ·rename_i t c;obtain⟨v,g,e⟩:=Wr h;refine⟨[v],rfl,e,?_⟩;simp[G3,qL,hf.at_ _ _ g,UE]
 ·rename_i t cs;obtain⟨v,g,e⟩:=Wr h;split at e
  ·rename_i ar;rw[Wu]at e;refine⟨ar.toList,by simpa[SK.ks]using e.1,e.2,?_⟩;simp[G3,qL,hf.at_ _ _ g,UE]
  ·exact e.elim
 ·rename_i b t c;obtain⟨v,g,e⟩:=Wr h;split at e
  ·rename_i ad c' hs;obtain⟨d,hd,i⟩:=Cv hs;obtain⟨x,m,e⟩:=G6 e;refine⟨[c.v x],rfl,e,?_⟩;simp only[G3,qL,hf.at_ _ _ g,py,asAddr,Sem.run_bind,Sem.run_pure,Result.andThen_ok,loadVar,KB hd,i,UE];simpa using BC m
  ·exact e.elim
 ·rename_i b t cs;obtain⟨v,g,e⟩:=Wr h;split at e
  ·rename_i ad cs' hs;rw[Wu]at e;obtain⟨j,e⟩:=e;simp only[zF,zT]at j;obtain⟨d,hd,i⟩:=CL hs;obtain⟨vs,p,e,u⟩:=GZ (P:=P) e;refine⟨vs,p,e,?_⟩;simp only[G3,qL,hf.at_ _ _ g,py,asAddr,Sem.run_bind,Sem.run_pure,Result.andThen_ok,loadVar,KB hd,i,zR,QE j.2,loadCells,j.1,u,UE];simp
  ·exact e.elim
theorem E0 {P:Program}{ρ:Env}{a:Act}{N:Nat}{w:World}(hf:Fits N ρ a):∀{rv:List ResultVar} {rs:List SK} {K:List Value->Prop},lf P rv rs ρ w.heap K →
 ∃vs,K vs/\(rv.mapM (G3 a.tmps)).run P w=.ok (pH rs vs) w
 | [],[],K,h=>⟨[],h,by simp[pH]⟩
 | r::rv,s::rs,K,h=>by
  obtain⟨v1,hl,hK,hr⟩:=MW hf h;obtain⟨e,d,b⟩:=E0 hf hK;refine⟨v1++e,d,?_⟩;simp only[List.mapM_cons,Sem.run_bind,hr,Result.andThen_ok,b,Sem.run_pure];cases s with
  | one c=>
   match v1,hl with
   | [v],_=>simp[pH,UE]
  | agg cs=>
   simp only[SK.ks]at hl;simp only[pH,UE,←hl,List.take_left,List.drop_left]
 | [],_::_,K,h=>h.elim
 | _::_,[],K,h=>h.elim
theorem KT {P:Program}{fn:Func}{ρ:Env}{a:Act}{N:Nat}{w:World}{rs:List SK}{K:List Value->Prop}(hf:Fits N ρ a)(h:lf P fn.results.toList rs ρ w.heap K) :
 ∃vs,K vs/\(results fn a.tmps).run P w=.ok (pack rs vs) w:=by
 obtain⟨vs,b,d⟩:=E0 hf h;refine⟨vs,b,?_⟩;rw[Ju,Array.mapM_eq_mapM_toList];simp only[Sem.run_bind,Sem.run_map,d,Result.andThen_ok,Sem.run_pure,pack];split
 ·rename_i h1
  match hp:pH rs vs,h1 with
  | [v],_=>simp
 ·rename_i h1
  match hp:pH rs vs,h1 with
  | [],_=>rfl
  | [v],h1=>simp at h1
  | _::_::_,_=>rfl
theorem R0 {a b:Prop}(f:b)(e:a=b:=by kernel_rfl):a:=e.mpr f
theorem Wa {P:Program}{f:Nat}{fn:Func}{x:Hn}{args:List Value}{rs:List SK}{R:eO (eR rs)}{h:Hp}(hfn:P.funcs[f]?=some fn)(hk:DP P fn x args rs R h):Wc P f args.toArray rs h R:=by
 intro w hw;subst hw;unfold DP at hk;split at hk
 case h_2=>exact hk.elim
 rename_i c hb;rw[Wu]at hk;obtain⟨p,hk⟩:=hk;have r:args.length<=fn.ntmps:=wX p;refine calls_of_wp hfn hb ?_;refine Qi c hk (ρ:=HT args) ⟨rfl,by simp;omega,λi v b=>?_⟩ λe z y u a s A g=>?_
 ·simp only[HT]at b;have m:i<args.length:=(cW.1 b).1;rw[ta (by simpa using m)];simpa using b
 ·cases e<;>simp only[nW]at g
  case normal=>
   obtain⟨vs,d,j⟩:=KT a g;exact⟨a.defers,_,j,s,vs,rfl,UF d⟩
  case ret=>
   obtain⟨vs,d,j⟩:=KT a g;exact⟨a.defers,_,j,s,vs,rfl,UF d⟩
theorem CZ {start:eO []->Prop}{round:eO []->eO []}(I:aP)(μ:Hp->Nat)(h0:start I)
 (hr:∀h,I h->round (λh'=>I h'/\μ h'<μ h) h):Yo [] start round:=
 ⟨I,μ,h0,λ_ h ⟨b,a⟩=>a▸hr h b⟩
theorem ZY {a:CK}{start:eO [a]->Prop}{round:eO [a]->eO [a]}(I:a.T->Hp->Prop)(μ:a.T->Hp->Nat)(h0:start I)
 (hr:∀x h,I x h->round (λx' h'=>I x' h'/\μ x' h'<μ x h) x h):Yo [a] start round:=
 ⟨I,μ,h0,λ_ x h ⟨d,b⟩=>b▸hr x h d⟩
theorem UC {a bb:CK}{start:eO [a,bb]->Prop}{round:eO [a,bb]->eO [a,bb]}(I:a.T->bb.T->Hp->Prop)(μ:a.T->bb.T->Hp->Nat)(h0:start I)
 (hr:∀x y h,I x y h->round (λx' y' h'=>I x' y' h'/\μ x' y' h'<μ x y h) x y h):Yo [a,bb] start round:=
 ⟨I,μ,h0,λ_ x y h ⟨d,b⟩=>b▸hr x y h d⟩
theorem aG {a:Addr}{K:Addr->Prop}(h:K a):bU (some a) K:=⟨a,rfl,h⟩
theorem nI {k:IntKind}{a:Addr}{h:Hp}{n:Int}{K:Int->Prop}(hc:cell h a=some (.int k n))(hK:K n):gp k a h K:=⟨n,hc,hK⟩
theorem m7 {a:Addr}{h:Hp}{n:Bool}{K:Bool->Prop}(hc:cell h a=some (.bool n))(hK:K n):lC a h K:=⟨n,hc,hK⟩
theorem ud {a:Addr}{h:Hp}{n:Option Addr}{K:Option Addr->Prop}(hc:cell h a=some (.pointer n))(hK:K n):fT a h K:=⟨n,hc,hK⟩
theorem DS {a:Addr}{h:Hp}{n:Option Nat}{K:Option Nat->Prop}(hc:cell h a=some (.map n))(hK:K n):k8 a h K:=⟨n,hc,hK⟩
theorem nO {a:Addr}{h:Hp}{x:Option Addr}{n c:Nat}{K:Sl->Prop}(hc:cell h a=some (.slice x n c))(hK:K ⟨x,n,c⟩):jr a h K:=⟨⟨x,n,c⟩,hc,hK⟩
theorem Uj {e:Int}(h1 : -9223372036854775808<=e)(h2:e<=9223372036854775807):IntKind.i64.wrap e=e:=by
 unfold IntKind.wrap;simp[IntKind.bits,IntKind.signed];omega
theorem ar {e:Int}{K:Int->Prop}(h1 : -9223372036854775808<=e)(h2:e<=9223372036854775807)(hK:K e):Ar .i64 e K:=by
 unfold Ar;rw[Uj h1 h2];exact hK
theorem JK (e:Int) : -9223372036854775808<=IntKind.i64.wrap e/\IntKind.i64.wrap e<=9223372036854775807:=by
 unfold IntKind.wrap;simp[IntKind.bits,IntKind.signed];omega
theorem nz {y:Int}{A:Prop}(h:y≠0)(hA:A):Nz y A:=⟨h,hA⟩
theorem nn {y:Int}{A:Prop}(h:0<=y)(hA:A):Nn y A:=⟨h,hA⟩
theorem ix {a:Addr}{n:Nat}{i:Int}{sz:Nat}{K:Addr->Prop}(h0:0<=i)(h1:i<(n:Int))(hK:K (a.add (i.toNat*sz))):Ix (some a) n i sz K:=⟨a,rfl,h0,h1,hK⟩
theorem cO {b:Bool}{A B:Prop}(h1:b=true->A)(h2:b=false->B):If b A B:=If.mk h1 h2
theorem cQ {p:Prop}[Decidable p]{A B:Prop}(h1:p->A)(h2:¬p->B):If (decide p) A B:=
 If.mk (λh=>h1 (sG h)) (λh=>h2 (uV h))
theorem cE {b:Bool}{A B:Prop}(hb:b=true)(h:A):If b A B:=by subst hb;exact h
theorem cB {b:Bool}{A B:Prop}(hb:b=false)(h:B):If b A B:=by subst hb;exact h
theorem lA {p:Prop}[Decidable p]{A B:Prop}(hp:p)(h:A):If (decide p) A B:=cE (by simpa using hp) h
theorem fR {p:Prop}[Decidable p]{A B:Prop}(hp:¬p)(h:B):If (decide p) A B:=cB (by simpa using hp) h
theorem CP (a:Int)(n:Nat):a.fdiv (2^n)=a/2^n:=Int.fdiv_eq_ediv_of_nonneg _ (Int.le_of_lt (Int.pow_pos aB))
theorem Yq {a b:Int}(h:0<=a):a.tdiv b=a/b:=Int.tdiv_eq_ediv_of_nonneg h
theorem Qz {a b:Int}(h:0<=a):a.tmod b=a%b:=Int.tmod_eq_emod_of_nonneg h
def bY (h:Hp)(b:Nat)(cs:List Value):Prop:=∃e,h[b]?=some (.cells cs.toArray e (0,0))
theorem bY.lt {h:Hp}{b:Nat}{cs:List Value}(hb:bY h b cs):b<h.size:=by
 obtain⟨e,a⟩:=hb;exact(zt.1 a).1
theorem bY.cell {h:Hp}{b o:Nat}{cs:List Value}(hb:bY h b cs):cell h ⟨b,o,none⟩=cs[o]? := by
 obtain⟨e,a⟩:=hb;simp[Vc.cell,a]
theorem bY.m6 {h:Hp}{b o:Nat}{cs:List Value}(hb:bY h b cs):m6 h ⟨b,o,none⟩=false:=by
 obtain⟨e,a⟩:=hb;simp[Vc.m6,a]
theorem bY.set {h:Hp}{b o:Nat}{cs:List Value}(hb:bY h b cs)(v:Value):bY (jI h ⟨b,o,none⟩ v) b (cs.set o v):=by
 obtain⟨e,a⟩:=hb;refine⟨e,?_⟩;simp[jI,uB,a]
theorem Vz {h:Hp}{a:Addr}{v:Value}{b:Nat}(hne:b≠a.block):(jI h a v)[b]?=h[b]? := by
 simp only[jI,uB];rw[zB (Ne.symm hne)]
theorem add_lit (b o n:Nat):Addr.add ⟨b,o,none⟩ n=⟨b,o+n,none⟩:=Addr.add_lit b o n
def l7 (h:Hp)(b:Nat)(cs:List Value):Prop:=∃e z,h[b]?=some (.cells cs.toArray e z)
theorem bY.q {h:Hp}{b:Nat}{cs:List Value}(hb:bY h b cs):l7 h b cs:=by
 obtain⟨e,a⟩:=hb;exact⟨e,_,a⟩
theorem l7.lt {h:Hp}{b:Nat}{cs:List Value}(hb:l7 h b cs):b<h.size:=by
 obtain⟨e,z,a⟩:=hb;exact(zt.1 a).1
theorem l7.cell {h:Hp}{b o:Nat}{cs:List Value}(hb:l7 h b cs):cell h ⟨b,o,none⟩=cs[o]? := by
 obtain⟨e,z,a⟩:=hb;simp[Vc.cell,a]
def Ext (F:Nat->Prop)(h h':Hp):Prop:=h.size<=h'.size/\∀b,b<h.size->¬F b->h'[b]?=h[b]?
def bK (h h':Hp):Prop:=Ext (λ_=>False) h h'
theorem Ext.refl (F:Nat->Prop)(h:Hp):Ext F h h:=⟨zD _,λ_ _ _=>rfl⟩
theorem Ext.trans {F:Nat->Prop}{a b c:Hp}(h:Ext F a b)(k:Ext F b c):Ext F a c:=
 ⟨zh h.1 k.1,λi d e=>(k.2 i (uC d h.1) e).trans (h.2 i d e)⟩
theorem Ext.mono {F G:Nat->Prop}{a b:Hp}(h:Ext F a b)(hs:∀i,i<a.size->F i->G i):Ext G a b:=
 ⟨h.1,λi d e=>h.2 i d λg=>e (hs i d g)⟩
theorem bK.to {F:Nat->Prop}{a b:Hp}(h:bK a b):Ext F a b:=Ext.mono h λ_ _ h=>h.elim
theorem Ext.jQ {F:Nat->Prop}{a b c:Hp}(h:Ext F a b)(k:bK b c):Ext F a c:=h.trans k.to
theorem Ext.size {F:Nat->Prop}{a b:Hp}(h:Ext F a b):a.size<=b.size:=h.1
theorem Ext.push (F:Nat->Prop)(h:Hp)(o:Obj):Ext F h (h.push o):=
 ⟨by simp,λb a _=>by rw[vz,zB (vW a)]⟩
theorem Ext.eI {F:Nat->Prop}{h h':Hp}{r:Nat}(ho:Qm h h' r)(hr:F r):Ext F h h':=
 ⟨Nat.le_of_eq ho.1.symm,λb _ a=>ho.2 b λe=>a (e▸hr)⟩
theorem Ext.jI {F:Nat->Prop}{h:Hp}{a:Addr}{v:Value}(hr:F a.block):Ext F h (jI h a v):=
 ⟨Nat.le_of_eq (KO h a v).symm,λb _ d=>Vz λe=>d (e▸hr)⟩
theorem Ext.at_ {F:Nat->Prop}{h h':Hp}(e:Ext F h h'){b:Nat}{o:Obj}(hb:h[b]?=some o)(hf:¬F b):h'[b]?=some o:=by
 rw[e.2 b (zt.1 hb).1 hf];exact hb
theorem Ext.bT {F:Nat->Prop}{h h':Hp}(e:Ext F h h'){b:Nat}{cs:List Value}(hb:bY h b cs)(hf:¬F b):bY h' b cs:=by
 obtain⟨t,a⟩:=hb;exact⟨t,e.at_ a hf⟩
theorem Ext.fO {F:Nat->Prop}{h h':Hp}(e:Ext F h h'){r:Nat}{k:IntKind}{c:CK}{l:List (Int×c.T)}(hb:dH h r k c l)(hf:¬F r):dH h' r k c l:=by
 obtain⟨g,b,d,a⟩:=hb;exact⟨g,b,e.at_ d hf,a⟩
theorem dH.lt {h:Hp}{r:Nat}{k:IntKind}{c:CK}{l:List (Int×c.T)}(hb:dH h r k c l):r<h.size:=by
 obtain⟨d,a,b,_⟩:=hb;exact(zt.1 b).1
theorem dH.nodup {h:Hp}{r:Nat}{k:IntKind}{c:CK}{l:List (Int×c.T)}(hb:dH h r k c l):(l.map (·.1)).Nodup:=by
 obtain⟨e,b,d,_,a,_⟩:=hb;exact a
theorem Ws {h h':Hp}{r b:Nat}{cs:List Value}(ho:Qm h h' r)(hb:bY h b cs)(hne:b≠r):bY h' b cs:=by
 obtain⟨t,a⟩:=hb;exact⟨t,by rw[ho.2 b hne];exact a⟩
theorem U7 {h h':Hp}{r b:Nat}{k:IntKind}{c:CK}{l:List (Int×c.T)}(ho:Qm h h' r)(hb:dH h b k c l)(hne:b≠r):dH h' b k c l:=by
 obtain⟨g,d,e,a⟩:=hb;exact⟨g,d,by rw[ho.2 b hne];exact e,a⟩
end Go.Vc
namespace Go.Bu
open Go Go.Vc
theorem OM {a b:Nat}(ha:a<9223372036854775808)(hb:b<9223372036854775808):bits .xor .i64 (a:Int) (b:Int)=((a ^^^ b:Nat):Int):=by
 have g:a ^^^ b<2^63:=Nat.xor_lt_two_pow O O;have e:(BitVec.ofInt 64 (a:Int)).toNat=a:=by
  rw[BitVec.ofInt_natCast,BitVec.toNat_ofNat];exact uD O
 have d:(BitVec.ofInt 64 (b:Int)).toNat=b:=by
  rw[BitVec.ofInt_natCast,BitVec.toNat_ofNat];exact uD O
 show IntKind.i64.wrap ((BitVec.ofInt 64 (a:Int) ^^^ BitVec.ofInt 64 (b:Int)).toNat:Int)=_;rw[BitVec.toNat_xor,e,d,Uj]<;>omega
theorem iS {a b:Nat}(ha:a<9223372036854775808)(hb:b<9223372036854775808):bits .and .i64 (a:Int) (b:Int)=((a &&& b:Nat):Int):=by
 have g:a &&& b<2^63:=Nat.and_lt_two_pow _ O;have e:(BitVec.ofInt 64 (a:Int)).toNat=a:=by
  rw[BitVec.ofInt_natCast,BitVec.toNat_ofNat];exact uD O
 have d:(BitVec.ofInt 64 (b:Int)).toNat=b:=by
  rw[BitVec.ofInt_natCast,BitVec.toNat_ofNat];exact uD O
 show IntKind.i64.wrap ((BitVec.ofInt 64 (a:Int) &&& BitVec.ofInt 64 (b:Int)).toNat:Int)=_;rw[BitVec.toNat_and,e,d,Uj]<;>omega
theorem Ic (q:Nat):q ^^^ 1=gT q:=by
 apply Nat.eq_of_testBit_eq;intro i;rw[Nat.testBit_xor];unfold gT;cases i with
 | zero=>
  simp only[Nat.testBit_zero];split<;>rename_i h
  ·have:(q+1)%2=1:=by omega
   simp[h,this]
  ·have b:q%2=1:=by omega
   have:(q-1)%2=0:=by omega
   simp[b,this]
 | succ i=>
  simp only[Nat.testBit_succ];have a:(1:Nat)/2=0:=by decide
  rw[a,Nat.zero_testBit,Bool.xor_false]
  congr 1
  split<;>omega
theorem NP (q k:Nat):(q*2^k) ^^^ (2^k)=gT q*2^k:=by
 have h:=Nat.shiftLeft_xor_distrib (a:=q) (b:=1) (i:=k);rw[Ic,Nat.shiftLeft_eq,Nat.shiftLeft_eq,Nat.shiftLeft_eq,Nat.one_mul]at h;exact h.symm
theorem DR {k:Nat}(h:k<=62):2^k<=4611686018427387904:=oI (n:=2) aB h
def Keys (S:Nat->Bool)(k:Nat)(B:List (Int×Bool)):Prop:=
 (∀x v,(x,v)∈B->v=true/\∃q:Nat,x=((q*2^k:Nat):Int)/\can S k q=true)/\∀q,can S k q=true->(((q*2^k:Nat):Int),true)∈B
structure BH (U:Hp) (p n:Nat) (S:Nat->Bool) (sb:Nat) (ms:List Nat):Prop where
 hd:∃cap,bY U p [.int .i64 n,.slice (some ⟨sb,0,none⟩) ms.length cap]
 row:∃rest,bY U sb (ms.map (λm=>Value.map (some m))++rest)
 maps:∀k m,ms[k]?=some m->∃B:List (Int×Bool),dH U m .i64 .b B/\Keys S k B
 nd:(p::sb::ms).Nodup
 n1:1<=n
 n2:n<=1024
 lo:2^ms.length<=2*n
 hi:n<2^ms.length
 jq:Bounded S n
def fp (p sb:Nat)(ms:List Nat)(b:Nat):Prop:=b∈p::sb::ms
variable {U h':Hp}{p n sb:Nat}{S:Nat->Bool}{ms:List Nat}
theorem BH.len (h:BH U p n S sb ms):ms.length<=11:=by
 have:=h.lo;have:=h.n2;apply Classical.byContradiction;intro hc;have:2^12<=2^ms.length:=oI aB O;omega
theorem BH.fits (h:BH U p n S sb ms){k q:Nat}(hf:q*2^k+2^k<=n):k<ms.length:=by
 apply Classical.byContradiction;intro hc;have:2^ms.length<=2^k:=oI aB O;have:=h.hi;omega
theorem BH.Jj (h:BH U p n S sb ms):cell U ⟨p,0,none⟩=some (.int .i64 n):=by
 obtain⟨cap,a⟩:=h.hd;rw[a.cell];rfl
theorem BH.m7 (h:BH U p n S sb ms):∃cap,cell U ⟨p,1,none⟩=some (.slice (some ⟨sb,0,none⟩) ms.length cap):=by
 obtain⟨cap,a⟩:=h.hd;exact⟨cap,by rw[a.cell];rfl⟩
theorem BH.OI (h:BH U p n S sb ms){k m:Nat}(hm:ms[k]?=some m):cell U ⟨sb,k,none⟩=some (.map (some m)):=by
 obtain⟨a,b⟩:=h.row;rw[b.cell,ze (by simpa using(cW.1 hm).1),zd,hm];rfl
theorem BH.get (h:BH U p n S sb ms){k:Nat}(hk:k<ms.length):∃m,ms[k]?=some m:=⟨ms[k],by simp[hk]⟩
theorem BH.bS (h:BH U p n S sb ms){F:Nat->Prop}(e:Ext F U h')(hF:∀b,fp p sb ms b->¬F b):BH h' p n S sb ms where
 hd:=by obtain⟨cap,d⟩:=h.hd;exact⟨cap,e.bT d (hF _ (by simp[fp]))⟩
 row:=by obtain⟨a,d⟩:=h.row;exact⟨a,e.bT d (hF _ (by simp[fp]))⟩
 maps:=λk m g=>by
  obtain⟨B,j,i⟩:=h.maps k m g;exact⟨B,e.fO j (hF _ (by simp[fp,zG g])),i⟩
 nd:=h.nd
 n1:=h.n1
 n2:=h.n2
 lo:=h.lo
 hi:=h.hi
 jq:=h.jq
theorem BH.bO (h:BH U p n S sb ms)(e:bK U h'):BH h' p n S sb ms:=h.bS e λ_ _=>id
theorem IG {k:Nat}{B:List (Int×Bool)}(hK:Keys S k B)(hn:(B.map (·.1)).Nodup)(q:Nat):bV B ((q*2^k:Nat):Int)=if can S k q then some true else none:=by
 unfold bV;cases hf:B.find? λx=>x.1==((q*2^k:Nat):Int)with
 | some x=>
  have j:=sP hf;have a:=tj hf;obtain⟨g,m⟩:=x;obtain⟨i,p,e,b⟩:=hK.1 g m a;have d:g=((q*2^k:Nat):Int):=by simpa using j
  rw[d]at e;have:q*2^k=p*2^k:=by exact_mod_cast e
  have:=vT (kz k) this;subst this;subst i;simp[b]
 | none=>
  rw[nR]at hf;by_cases b:can S k q=true
  ·have:=hf _ (hK.2 q b);simp at this
  ·simp[b]
theorem BH.lk (h:BH U p n S sb ms){k m q:Nat}(hm:ms[k]?=some m){x:Int}(hx:x=((q*2^k:Nat):Int)){K:Option Bool->Prop}
 (hK:K (if can S k q then some true else none)):Lk .i64 .b (some m) x U K:=by
 obtain⟨B,a,d⟩:=h.maps k m hm;exact⟨B,a,by rw[hx,IG d a.nodup];exact hK⟩
theorem Cs {k:Nat}{B:List (Int×Bool)}(hK:Keys S k B)(hn:(B.map (·.1)).Nodup)(hb:Bounded S n):B.length=many n S k:=by
 have p:(B.map (·.1)).Perm (((List.range n).filter (can S k)).map λq=>((q*2^k:Nat):Int)):=by
  rw[Ac hn]
  ·intro x;simp only[zE,zI,zg];constructor
   ·rintro⟨⟨x1,x2⟩,hm,rfl⟩;obtain⟨_,q,m,d⟩:=hK.1 x1 x2 hm;refine⟨q,⟨?_,d⟩,m.symm⟩;have:=ZE hb (Zt.1 d).1;have j:=kz k;have r:q<=q*2^k:=Nat.le_mul_of_pos_right _ j;omega
   ·rintro⟨q,⟨_,d⟩,rfl⟩;exact⟨_,hK.2 q d,rfl⟩
  ·have i:((List.range n).filter (can S k)).Pairwise (· ≠ ·):=List.Pairwise.sublist rW List.nodup_range;refine List.Pairwise.map _ (λa b (e:a≠b) g=>e ?_) i;have:a*2^k=b*2^k:=by exact_mod_cast g
   exact vT (kz k) this
 have:=p.length_eq;simp only[zl]at this;rw[this,many,ym]
theorem BH.kT (h:BH U p n S sb ms){k m:Nat}(hm:ms[k]?=some m){K:Int->Prop}(hK:K ((many n S k:Nat):Int)):qG .i64 .b (some m) U K:=by
 obtain⟨B,a,d⟩:=h.maps k m hm;exact⟨B,a,by rw[Cs d a.nodup h.jq];exact hK⟩
theorem BH.oL (h:BH U p n S sb ms){k m:Nat}{T:Nat->Bool}(hm:ms[k]?=some m)(ho:Qm U h' m){B':List (Int×Bool)}(hB':dH h' m .i64 .b B')(hK':Keys T k B')
 (hoth:∀j q,j≠k->can T j q=can S j q) (hT:Bounded T n):BH h' p n T sb ms where
 hd:=by
  obtain⟨cap,r⟩:=h.hd;refine⟨cap,Ws ho r ?_⟩;have:=h.nd;simp only[zr,zW,not_or]at this;rintro rfl;exact this.1.2 (zG hm)
 row:=by
  obtain⟨i,r⟩:=h.row;refine⟨i,Ws ho r ?_⟩;have:=h.nd;simp only[zr,zW,not_or]at this;rintro rfl;exact this.2.1 (zG hm)
 maps:=λj A a=>by
  by_cases e:j=k
  ·subst e;rw[hm]at a;cases a;exact⟨B',hB',hK'⟩
  ·obtain⟨B,C,d⟩:=h.maps j A a;refine⟨B,U7 ho C ?_,?_⟩
   ·rintro rfl;have g:=h.nd;simp only[zr]at g;exact e ((List.getElem?_inj (cW.1 a).1 g.2.2).1 (a.trans hm.symm))
   ·refine⟨λx v y=>?_,λq w=>d.2 q (by rw[←hoth j q e];exact w)⟩;obtain⟨u,q,s,z⟩:=d.1 x v y;exact⟨u,q,s,by rw[hoth j q e];exact z⟩
 nd:=h.nd
 n1:=h.n1
 n2:=h.n2
 lo:=h.lo
 hi:=h.hi
 jq:=hT
theorem Jh (hb:Bounded S n)(k q:Nat):Bounded (del S k q) n:=λx a=>hb x (Vj.1 a).1
theorem Ei (hb:Bounded S n){k q:Nat}(hf:q*2^k+2^k<=n):Bounded (ins S k q) n:=λx a=>by
 rcases Vn.1 a with h|h
 ·exact hb x h
 ·have:=Z0.1 h;omega
theorem Dl {a b:Bool}(h:a=true↔b=true):a=b:=by cases a<;>cases b<;>simp_all
theorem BH.ry (h:BH U p n S sb ms){k m q:Nat}(hm:ms[k]?=some m)(hc:can S k q=true){x:Int}(hx:x=((q*2^k:Nat):Int)){K:aP}
 (hK:∀h',Ext (· ∈ ms) U h'->BH h' p n (del S k q) sb ms->K h'):ld .i64 .b (some m) x U K:=by
 obtain⟨B,D,u⟩:=h.maps k m hm;refine⟨B,D,λh' w _ s=>hK h' (Ext.eI (w m rfl) (zG hm)) ?_⟩;refine h.oL hm (w m rfl) s ⟨λy v i=>?_,λr A=>?_⟩ (λj r C=>Dl ?_) (Jh h.jq k q)
 ·simp only[cT,zI,l6,mj]at i;obtain⟨z,r,a,g⟩:=u.1 y v i.1;refine⟨z,r,a,(BI hc).2 ⟨g,λe=>i.2 ?_⟩⟩;rw[a,hx,e.2]
 ·have d:=(BI hc).1 A;simp only[cT,zI,l6,mj];refine⟨u.2 r d.1,λe=>d.2 ⟨rfl,?_⟩⟩;rw[hx]at e;have:r*2^k=q*2^k:=by exact_mod_cast e
  exact vT (kz k) this
 ·rw[BI hc];exact⟨λh=>h.1,λh=>⟨h,λe=>C e.1⟩⟩
theorem BH.wJ (h:BH U p n S sb ms){k m q:Nat}(hm:ms[k]?=some m)(hd:∀y,y/2^k=q->S y=false)(hup:¬full (ins S k q) (k+1) (q/2)=true)(hf:q*2^k+2^k<=n)
 {x:Int} (hx:x=((q*2^k:Nat):Int)) {K:aP} (hK:∀h',Ext (· ∈ ms) U h'->BH h' p n (ins S k q) sb ms->K h'):ke .i64 .b (some m) x true U K:=by
 obtain⟨B,F,w⟩:=h.maps k m hm;refine⟨m,B,rfl,F,λh' A z=>hK h' (Ext.eI A (zG hm)) ?_⟩;have s:∀y∈B,(y.1==x)=false:=by
  rintro⟨y,v⟩ d;obtain⟨_,r,a,g⟩:=w.1 y v d;simp only[mj];rintro rfl;rw[hx]at a;have:q*2^k=r*2^k:=by exact_mod_cast a
  have:=vT (kz k) this;subst this;have u:=VI g (Kv k q);rw[hd _ (Kv k q)]at u;cases u
 have i:dB B x true=B++[(x,true)]:=by
  unfold dB;rw[zB];simp only[qk,mA];intro y d;simp[s y d]
 refine h.oL hm A z ?_ (λj r E=>Dl ?_) (Ei h.jq hf)
 ·rw[i];refine⟨λy v d=>?_,λr D=>?_⟩
  ·simp only[zK,zN,Prod.mk.injEq]at d;rcases d with d|⟨rfl,rfl⟩
   ·obtain⟨C,r,a,g⟩:=w.1 y v d;exact⟨C,r,a,(xM hd hup).2 (.inl g)⟩
   ·exact⟨rfl,q,hx,(xM hd hup).2 (.inr ⟨rfl,rfl⟩)⟩
  ·rcases(xM hd hup).1 D with u|⟨_,rfl⟩
   ·exact kv _ (w.2 r u)
   ·rw[hx];exact nF _ aA
 ·rw[xM hd hup];exact⟨λh=>h.elim id λe=>(E e.1).elim,.inl⟩
end Go.Bu
namespace Go.Vc
open Go
theorem VS {b o:Nat}:∀{vs:List Value} {h:Hp} {cs:List Value} {i:Nat} {K:aP},bY h b cs->o+i+vs.length<=cs.length →
 (∀h',Qm h h' b->bY h' b (cs.take (o+i)++vs++cs.drop (o+i+vs.length))->K h')->np ⟨b,o,none⟩ h vs i K
 | [],h,cs,i,K,hb,hl,hK=>hK h ⟨rfl,λ_ _=>rfl⟩ (by simpa using hb)
 | v::vs,h,cs,i,K,hb,hl,hK=>by
  simp only[zY]at hl;refine⟨?_,?_,?_⟩
  ·rw[add_lit,hb.cell,cV O];rfl
  ·rw[add_lit];exact hb.m6
  ·rw[add_lit];have hb':=hb.set (o:=o+i) v;refine VS hb' aE λh' d a=>hK h' ?_ ?_
   ·exact⟨d.1.trans (KO _ _ _),λc g=>(d.2 c g).trans (Vz g)⟩
   ·have e:(cs.set (o+i) v).take (o+(i+1))++vs++(cs.set (o+i) v).drop (o+(i+1)+vs.length)=cs.take (o+i)++v::vs++cs.drop (o+i+(v::vs).length):=by
     rw[List.drop_set_of_lt O,show o+(i+1)=(o+i)+1 by omega,k7,List.take_set_of_le O,zL O];simp only[AB,j3,List.singleton_append,kZ,sK,zY]
     congr 4
     omega
    rw[e]at a;exact a
def Own (Q:Nat->Prop)(h:Hp)(s:Sl)(sz:Nat)(xs:List Value):Prop:=
 xs.length=s.len*sz/\(s.a=none/\s.len=0/\s.cap=0\/∃b cs,Q b/\s.a=some ⟨b,0,none⟩/\bY h b cs/\s.len<=s.cap/\cs.length=s.cap*sz/\cs.take xs.length=xs)
def U5 (s:Sl)(b:Nat):Prop:=∃o,s.a=some ⟨b,o,none⟩
theorem Own.nil (Q:Nat->Prop)(h:Hp)(sz:Nat):Own Q h ⟨none,0,0⟩ sz []:=⟨by simp,.inl ⟨rfl,rfl,rfl⟩⟩
theorem Own.bS {Q F:Nat->Prop}{h h':Hp}{s:Sl}{sz:Nat}{xs:List Value}(ho:Own Q h s sz xs)(e:Ext F h h')(hF:∀b,Q b->b<h.size->¬F b):Own Q h' s sz xs:=by
 refine⟨ho.1,ho.2.imp id ?_⟩;rintro⟨b,cs,hq,ha,hb,r⟩;exact⟨b,cs,hq,ha,e.bT hb (hF b hq hb.lt),r⟩
theorem Own.bO {Q:Nat->Prop}{h h':Hp}{s:Sl}{sz:Nat}{xs:List Value}(ho:Own Q h s sz xs)(e:bK h h'):Own Q h' s sz xs:=ho.bS e λ_ _ _ h=>h
theorem Own.mono {Q Q':Nat->Prop}{h:Hp}{s:Sl}{sz:Nat}{xs:List Value}(ho:Own Q h s sz xs)(hq:∀b,b<h.size->Q b->Q' b):Own Q' h s sz xs:=by
 refine⟨ho.1,ho.2.imp id ?_⟩;rintro⟨b,cs,hQ,ha,hb,r⟩;exact⟨b,cs,hq b hb.lt hQ,ha,hb,r⟩
theorem Own.jc {Q:Nat->Prop}{h:Hp}{s:Sl}{sz:Nat}{xs:List Value}(ho:Own Q h s sz xs){b:Nat}(hb:U5 s b):Q b/\b<h.size:=by
 obtain⟨o,a⟩:=hb;rcases ho.2 with⟨ha,_⟩|⟨b',cs,hq,ha,hk,_⟩
 ·rw[ha]at a;cases a
 ·rw[ha]at a;cases a;exact⟨hq,hk.lt⟩
theorem Own.rd {Q:Nat->Prop}{h:Hp}{s:Sl}{sz:Nat}{xs:List Value}(ho:Own Q h s sz xs):Rd h s.a xs:=by
 rcases ho.2 with⟨ha,hl,_⟩|⟨b,cs,_,ha,hb,_,_,ht⟩
 ·rw[ha];have:=ho.1;rw[hl]at this;simp at this;exact this
 ·rw[ha];intro j v hv;rw[add_lit,hb.cell,zH];rw[←ht,zj]at hv;split at hv
  ·exact hv
  ·cases hv
theorem Own.cell {Q:Nat->Prop}{h:Hp}{s:Sl}{sz:Nat}{xs:List Value}(ho:Own Q h s sz xs){j:Nat}{v:Value}(hv:xs[j]?=some v):∃b,s.a=some ⟨b,0,none⟩/\Vc.cell h ⟨b,j,none⟩=some v:=by
 rcases ho.2 with⟨ha,hl,_⟩|⟨b,cs,_,ha,hb,_,_,ht⟩
 ·have:=ho.1;rw[hl]at this;simp at this;subst this;simp at hv
 ·refine⟨b,ha,?_⟩;rw[hb.cell];rw[←ht,zj]at hv;split at hv
  ·exact hv
  ·cases hv
theorem Own.app {Q:Nat->Prop}{h:Hp}{s x:Sl}{sz bytes e:Nat}{zs xs ys:List Value}{K:Sl->Hp->Prop}(ho:Own Q h s sz xs)(hq:∀b,h.size<=b->Q b)(hz:zs.length=sz)
 (hy:ys.length=x.len*sz) (hr:Rd h x.a ys) (h1:∀v∈ys,dQ v=true) (hb:(s.len+x.len)*bytes<=2^46) (hc:s.len+x.len<=2^62)
 (hx:0<x.len) (hK:∀s' h',s'.len=s.len+x.len->Ext (U5 s) h h'->Own Q h' s' sz (xs++ys)->s'.a≠none->K s' h'):App s sz bytes e zs x h K:=by
 refine⟨xs,ys,ho.1,hy,ho.rd,hr,h1,hb,hc,λg=>?_,λp c j=>?_⟩
 ·rcases ho.2 with⟨ha,hl,hcap⟩|⟨b,cs,hQ,ha,hk,hle,hcl,ht⟩
  ·omega
  ·rw[ha];simp only;rw[add_lit];have r:(s.len+x.len)*sz<=s.cap*sz:=lX _ g;rw[zm]at r;have d:=ho.1;refine VS hk O λh' m i=>hK _ h' rfl (Ext.eI m ⟨0,ha⟩) ⟨?_,.inr ⟨b,_,hQ,rfl,i,g,?_,?_⟩⟩ aA
   ·simp[d,hy,zm]
   ·simp;omega
   ·rw[zO,d];rw[zH,j0,←d];rw[ht,oD aA,mT aA]
 ·refine hK _ _ rfl (Ext.push _ _ _) ⟨by simp[ho.1,hy,zm],.inr ⟨h.size,xs++ys++(List.replicate (c-(s.len+x.len)) zs).flatten,hq _ (zD _),rfl,⟨e,by simp⟩,j,?_,?_⟩⟩ aA
  ·simp only[zO,wh,uv,uY,ho.1,hy,hz,←zm]
   congr 1;omega
  ·rw[oD aA,mT aA]
theorem N9 {h:Hp}{v:Value}{e:Nat}:Rd (h.push (.cells #[v] e (0,0))) (some ⟨h.size,0,none⟩) [v]:=by
 intro j u hu;rw[add_lit];cases j with
 | zero=>simp at hu;subst hu;simp[Vc.cell]
 | succ j=>simp at hu
theorem bY.ML {h:Hp}{b o:Nat}{cs:List Value}(hb:bY h b cs){v:Value}(ho:o<cs.length){K:aP}(hK:∀h',Qm h h' b->bY h' b (cs.set o v)->K h'):dW (Addr.add ⟨b,0,none⟩ o) v h K:=by
 rw[add_lit,zH];refine⟨?_,hb.m6,hK _ ⟨KO _ _ _,λc a=>Vz a⟩ (hb.set v)⟩;rw[hb.cell,cV ho];rfl
theorem bY.push (h:Hp)(cs:List Value)(e:Nat):bY (h.push (.cells cs.toArray e (0,0))) h.size cs:=⟨e,by simp⟩
theorem dH.push (h:Hp)(k:IntKind)(c:CK):dH (h.push (.map #[] 0)) h.size k c []:=⟨#[],0,by simp,by simp,by simp,by simp,by simp⟩
theorem Ext.only {F:Nat->Prop}{a b c:Hp}{r:Nat}(e:Ext F a b)(ho:Qm b c r)(hr:F r\/a.size<=r):Ext F a c:=
 ⟨by rw[ho.1];exact e.1,λi g d=>by
  rw[ho.2 i ?_];exact e.2 i g d;rintro rfl;rcases hr with h|h
  ·exact d h
  ·omega⟩
theorem Ext.fresh {a b c:Hp}{F:Nat->Prop}(e:bK a b)(k:Ext F b c)(hF:∀i,F i->a.size<=i):bK a c:=
 ⟨zh e.1 k.1,λi d _=>(k.2 i (uC d e.1) λg=>by have:=hF i g;omega).trans (e.2 i d id)⟩
theorem Own.st {Q:Nat->Prop}{h:Hp}{s:Sl}{sz:Nat}{xs:List Value}(ho:Own Q h s sz xs){j:Nat}(hj:j<xs.length){v:Value}{K:aP}{a:Addr}(ha:∀b,s.a=some ⟨b,0,none⟩->a=⟨b,j,none⟩)
 (hK:∀h',Ext (U5 s) h h'->Own Q h' s sz (xs.set j v)->K h'):dW a v h K:=by
 rcases ho.2 with⟨h1,hl,_⟩|⟨b,cs,hq,hsa,hb,hle,hcl,ht⟩
 ·have:=ho.1;rw[hl]at this;simp at this;subst this;simp at hj
 ·rw[ha b hsa];have d:j<cs.length:=by
   have:(cs.take xs.length).length=xs.length:=by rw[ht]
   rw[zZ]at this;omega
  refine⟨by rw[hb.cell,cV d];rfl,hb.m6,hK _ (Ext.jI (F:=U5 s) ⟨0,hsa⟩) ⟨by simp[ho.1],.inr ⟨b,_,hq,hsa,hb.set v,hle,by simp[hcl],?_⟩⟩⟩;rw[nQ,List.take_set,ht]
end Go.Vc