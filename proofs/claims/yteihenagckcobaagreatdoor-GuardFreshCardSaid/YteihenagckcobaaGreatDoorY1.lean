/- Texts joined. -/
import Init
import Derived.WalkKit
import Derived.WalkLawsBesides
import Derived.WalkSpells
import Derived.ChangeKeysEq
import Derived.StillTail
import Derived.OrdersHeld
import Derived.Scope
set_option linter.unusedVariables false
set_option linter.unusedSimpArgs false
abbrev zB:=@if_neg
abbrev zC:=@if_pos
abbrev zD:=@Nat.le_refl
abbrev zE:=@List.mem_map
abbrev zF:=@Bool.and_eq_true
abbrev zG:=@List.mem_of_getElem?
abbrev zH:=@Nat.zero_add
abbrev zI:=@List.mem_filter
abbrev zJ:=@decide_eq_true
abbrev zK:=@List.mem_append
abbrev zL:=@List.getElem?_set_self
abbrev zM:=@decide_eq_false
abbrev zN:=@List.mem_singleton
abbrev zO:=@List.getD_eq_getElem?_getD
abbrev zP:=@List.length_append
abbrev zQ:=@List.getElem?_of_mem
abbrev zR:=@if_true
abbrev zS:=@beq_iff_eq
abbrev zT:=@List.map_cons
abbrev zU:=@decide_eq_true_eq
abbrev zV:=@List.getElem?_eq_none
abbrev zW:=@List.mem_cons
abbrev zX:=@Option.map_some
abbrev zY:=@List.length_cons
abbrev zZ:=@List.length_take
abbrev za:=@Int.eq_ofNat_of_zero_le
abbrev zc:=@List.mem_range
abbrev zd:=@Bool.false_eq_true
abbrev ze:=@Nat.le_trans
abbrev zg:=@List.getElem?_map
abbrev zh:=@List.getElem?_append_left
abbrev zj:=@List.getElem?_take
abbrev zk:=@List.getElem?_set_ne
abbrev zl:=@List.length_map
abbrev zm:=@Nat.add_mul
abbrev zo:=@List.ext_getElem?
abbrev zp:=@List.getElem?_append_right
abbrev zr:=@List.nodup_cons
abbrev zt:=@Nat.eq_of_beq_eq_true
abbrev zy:=@if_false
abbrev zz:=@List.append_assoc
abbrev jW:=@List.all_eq_true
abbrev j3:=@Array.getElem?_eq_some_iff
abbrev jY:=@Nat.add_zero
abbrev jX:=@List.length_drop
abbrev ku:=@Nat.lt_or_ge
abbrev ko:=@List.map_congr_left
abbrev j9:=@List.any_eq_true
abbrev kg:=@List.getElem_mem
abbrev ke:=@List.mem_append_left
abbrev kF:=@Nat.two_pow_pos
abbrev kC:=@List.map_append
abbrev kL:=@List.getElem?_drop
abbrev kX:=@List.append_nil
abbrev kW:=@List.cons_append
abbrev k8:=@List.map_map
abbrev lI:=@List.take_add_one
abbrev lH:=@List.length_nil
abbrev lS:=@Nat.mul_le_mul_right
abbrev lO:=@Bool.eq_iff_iff
abbrev lR:=@Nat.mul_le_mul
abbrev lX:=@List.getElem?_replicate
abbrev lW:=@Nat.pow_succ
abbrev mj:=@Bool.not_eq_true'
abbrev mh:=@List.any_eq_false
abbrev l3:=@List.pairwise_iff_getElem
abbrev mf:=@beq_eq_false_iff_ne
abbrev mA:=@List.getElem?_set
abbrev mN:=@List.take_of_length_le
abbrev mG:=@Nat.zero_lt_one
abbrev m5:=@List.findIdx?_eq_some_iff_getElem
abbrev mX:=@Nat.mul_one
abbrev nm:=@Bool.or_eq_true
abbrev nj:=@List.getElem?_range
abbrev m7:=@List.take_length
abbrev ni:=@List.set_set
abbrev mR:=@Bool.eq_false_iff
abbrev nK:=@List.length_set
abbrev nt:=@List.nodup_append
abbrev nu:=@List.take_append_drop
abbrev np:=@List.mem_cons_of_mem
abbrev nI:=@List.mem_append_right
abbrev ny:=@List.find?_eq_none
abbrev nB:=@List.sum_cons
abbrev ot:=@Option.map_eq_some_iff
abbrev oe:=@Nat.pow_le_pow_right
abbrev nX:=@List.take_append_of_le_length
abbrev oZ:=@Nat.lt_trichotomy
abbrev pj:=@Option.isSome_iff_exists
abbrev px:=@List.pairwise_append
abbrev po:=@List.filter_eq_self
abbrev pC:=@Option.getD_some
abbrev pG:=@List.mem_cons_self
abbrev pB:=@Nat.min_eq_left
abbrev pf:=@List.length_pos_iff
abbrev qs:=@List.foldl_cons
abbrev pN:=@Bool.not_eq_true
abbrev pV:=@Bool.true_and
abbrev p8:=@List.flatMap_cons
abbrev qe:=@List.length_filter_le
abbrev pK:=@Nat.sub_self
abbrev qm:=@List.range_succ
abbrev qT:=@List.map_nil
abbrev qR:=@Array.getD_eq_getD_getElem?
abbrev qH:=@List.contains_eq_mem
abbrev q9:=@List.set_cons_succ
abbrev rD:=@List.pairwise_cons
abbrev qU:=@Option.map_eq_none_iff
abbrev rH:=@of_decide_eq_true
abbrev sS:=@Nat.div_div_eq_div_mul
abbrev sO:=@Nat.le_of_lt
abbrev r8:=@List.getElem?_modify
abbrev rQ:=@List.filter_cons
abbrev sX:=@List.filter_sublist
abbrev rX:=@List.getElem_map
abbrev tu:=@Bool.and_false
abbrev sd:=@List.mem_of_mem_drop
abbrev td:=@Array.getElem?_append_left
abbrev sN:=@List.find?_some
abbrev rU:=@List.mem_of_find?_eq_some
abbrev sA:=@List.nil_append
abbrev tg:=@List.nodup_nil
abbrev sf:=@true_and
abbrev sK:=@of_decide_eq_false
abbrev tZ:=@Nat.mod_lt
abbrev uE:=@List.find?_cons
abbrev uu:=@List.all_cons
abbrev ub:=@List.findIdx?_eq_none_iff
abbrev ux:=@Nat.mod_eq_of_lt
abbrev ur:=@Nat.mul_eq_zero
abbrev uc:=@Nat.zero_mul
abbrev tN:=@List.getElem_of_mem
abbrev tG:=@Bool.and_true
abbrev tW:=@Array.getElem?_modify
abbrev tJ:=@Nat.lt_of_lt_of_le
abbrev uh:=@List.map_replicate
abbrev uB:=@Bool.decide_and
abbrev uC:=@Bool.false_and
abbrev uk:=@List.pairwise_map
abbrev ug:=@List.take_succ_cons
abbrev uq:=@List.filter_cons_of_neg
abbrev tE:=@List.filter_cons_of_pos
abbrev tT:=@List.filter_append
abbrev uI:=@Int.le_refl
abbrev uU:=@List.findIdx?_cons
abbrev uW:=@Array.getElem?_toList
abbrev uY:=@List.map_id
abbrev wD:=@List.flatten_cons
abbrev wm:=@Nat.mul_assoc
abbrev vP:=@Array.getElem?_push
abbrev uQ:=@Nat.ne_of_lt
abbrev uK:=@Array.length_toList
abbrev vd:=@List.filter_congr
abbrev uP:=@List.filterMap_append
abbrev uH:=@List.mem_filterMap
abbrev wL:=@Bool.not_false
abbrev vS:=@List.mem_of_mem_take
abbrev vO:=@Nat.eq_of_mul_eq_mul_right
abbrev wh:=@List.length_flatten
abbrev vR:=@List.sum_replicate_nat
abbrev vG:=@List.drop_eq_getElem_cons
abbrev vE:=@Nat.add_assoc
abbrev wK:=@List.replicate_succ
abbrev vz:=@List.map_set
abbrev vX:=@List.countP_cons
abbrev vQ:=@List.length_eq_zero_iff
abbrev vu:=@List.filter_map
abbrev uO:=@List.foldl_append
abbrev vH:=@List.count_append
abbrev xP:=@Nat.div_mul_le_self
abbrev wQ:=@List.map_eq_nil_iff
abbrev xV:=@Array.mem_of_getElem?
abbrev xJ:=@Array.getElem?_setIfInBounds_ne
abbrev wV:=@List.mem_map_of_mem
abbrev xQ:=@List.mem_replicate
abbrev xz:=@Nat.le_of_ble_eq_true
abbrev xT:=@Array.isEmpty_iff
abbrev yn:=@List.contains_iff_mem
abbrev xd:=@Bool.false_or
abbrev wN:=@List.countP_eq_length_filter
abbrev xL:=@List.length_range
abbrev xZ:=@List.count_replicate
abbrev xG:=@List.take_take
abbrev xY:=@List.take_left'
abbrev xH:=@List.drop_succ_cons
abbrev ym:=@List.dropLast_eq_take
abbrev wT:=@List.mem_or_eq_of_mem_set
abbrev yk:=@List.take_zero
abbrev xf:=@List.count_eq_zero
abbrev wO:=@List.size_toArray
abbrev xu:=@Array.size_append
abbrev xe:=@Int.dvd_of_emod_eq_zero
abbrev yE:=@Nat.mul_div_cancel
abbrev A6:=@Array.toList_modify
abbrev AN:=@Array.toList_eraseIdxIfInBounds
abbrev Ao:=@List.replicate_succ'
abbrev AM:=@List.filter_filter
abbrev y7:=@List.filterMap_cons
abbrev yI:=@Nat.lt_of_le_of_lt
abbrev Bm:=@List.perm_ext_iff_of_nodup
abbrev BI:=@Nat.eq_zero_or_pos
abbrev BV:=@List.length_dropLast
abbrev A9:=@List.getElem?_cons_succ
abbrev AS:=@List.eq_nil_of_length_eq_zero
abbrev yr:=@Nat.add_sub_cancel_left
abbrev AE:=@List.take_sublist
abbrev Au:=@List.find?_isSome
abbrev Av:=@List.eq_of_mem_replicate
abbrev Bs:=@List.length_filter_lt_length_iff_exists
abbrev yJ:=@List.getElem?_cons_zero
abbrev Bp:=@List.length_singleton
abbrev A5:=@List.getElem?_zipWith
abbrev Am:=@List.nodup_iff_count
abbrev Ay:=@List.count_pos_iff
abbrev Ah:=@List.count_singleton_self
theorem cW {α:Type _}{l:List α}{i:Nat}{a:α}:l[i]?=some a↔∃h:i<l.length,l[i]=a:=List.getElem?_eq_some_iff
theorem cV {α:Type _}{l:List α}{i:Nat}(h:i<l.length):l[i]?=some l[i]:=List.getElem?_eq_getElem h
theorem dE (n:Nat):(n:Int).toNat=n:=Int.toNat_natCast n
theorem O{p:Prop}(h:p:=by omega):p:=h
theorem aA{p:Prop}(h:p:=by simp):p:=h
theorem aB{p:Prop}(h:p:=by decide):p:=h
theorem aC{p:Prop}(h:p:=by simp only;omega):p:=h
theorem aD{p:Prop}(h:p:=by first|omega | (simp only;omega)):p:=h
theorem aE{p:Prop}(h:p:=by simp;omega):p:=h
abbrev aW(b:Nat):Option Go.Addr:=some ⟨b,0,none⟩
namespace Go.Ar
structure bZ where
 size:Nat
 aF:Nat
 batch:Nat
 deriving DecidableEq
def bZ.n (c:bZ):Nat:=c.aF*256/c.size
def VU (x y z:Int):Bool:=decide (8<=x)&&(decide (x<=512)&&(decide (x%8=0)&&(decide (1<=y)&&(decide (y<=4)&&(decide (x<=y*256)&&(decide (1<=z)&&decide (z<=32)))))))
def bZ.ok (c:bZ):Prop:=8<=c.size/\c.size<=512/\c.size%8=0/\1<=c.aF/\c.aF<=4/\c.size<=c.aF*256/\1<=c.batch/\c.batch<=32
theorem UQ (x y z:Int):VU x y z=true↔8<=x/\x<=512/\x%8=0/\1<=y/\y<=4/\x<=y*256/\1<=z/\z<=32:=by simp[VU]
theorem C0 (c:bZ):VU c.size c.aF c.batch=true↔c.ok:=by
 rw[UQ];unfold bZ.ok;omega
def ZY (t:Int×Int×Int):bZ:=⟨t.1.toNat,t.2.1.toNat,t.2.2.toNat⟩
theorem Gk {x y z:Int}(h:VU x y z=true):∃c:bZ,c.ok/\ZY (x,y,z)=c/\x=c.size/\y=c.aF/\z=c.batch:=by
 rw[UQ]at h;refine⟨ZY (x,y,z),?_,rfl,?_,?_,?_⟩<;>simp only[ZY,bZ.ok]<;>omega
def uv:List (Int×Int×Int)->Bool
 | x::y::l=>decide (x.1<y.1)&&uv (y::l)
 | _=>true
def Qd (xs:List (Int×Int×Int)):Bool:=decide (1<=xs.length)&&(decide (xs.length<=40)&&(xs.all (λt=>VU t.1 t.2.1 t.2.2)&&uv xs))
theorem bZ.ok.qG {c:bZ}(h:c.ok):1<=c.n:=by
 unfold bZ.ok at h;exact(Nat.one_le_div_iff O).2 h.2.2.2.2.2.1
theorem bZ.ok.kx {c:bZ}(h:c.ok):c.n<=128:=by
 unfold bZ.ok at h;unfold bZ.n;have:c.aF*256/c.size<=1024/8:=Nat.div_le_div O O O;omega
theorem bZ.wH (c:bZ):c.n*c.size<=c.aF*256:=xP _ _
structure cG where
 st:Nat
 tk:List Bool
 deriving DecidableEq
def cG.many (s:cG):Nat:=s.tk.count true
def idx (c:bZ)(s:cG)(x:Int):Option Nat:=if x<((s.st*256:Nat):Int)\/((s.st*256+s.tk.length*c.size:Nat):Int)<=x then none else some ((x-((s.st*256:Nat):Int)).toNat/c.size)
def at_ (c:bZ)(s:cG)(i:Nat):Nat:=s.st*256+i*c.size
def obj (c:bZ)(s:cG)(x:Int):Option Nat:=match idx c s x with
 | some i=>if x=((at_ c s i:Nat):Int)then some i else none
 | none=>none
theorem VP {c:bZ}{s:cG}{x:Int}{i:Nat}(hc:0<c.size):idx c s x=some i↔((at_ c s i:Nat):Int)<=x/\x<((at_ c s (i+1):Nat):Int)/\i<s.tk.length:=by
 unfold idx at_;constructor
 ·intro h;split at h
  ·cases h
  ·rename_i hn;cases h;obtain⟨y,rfl⟩:=za (show 0<=x by omega);have e:((y:Int)-((s.st*256:Nat):Int)).toNat=y-s.st*256:=by omega
   rw[e];have g:(y-s.st*256)/c.size*c.size<=y-s.st*256:=xP _ _;have b:=Nat.lt_div_mul_add (a:=y-s.st*256) hc;have d:(y-s.st*256)/c.size<s.tk.length:=(Nat.div_lt_iff_lt_mul hc).2 O;rw[zm];omega
 ·rintro⟨g,b,d⟩;obtain⟨y,rfl⟩:=za (show 0<=x by omega);have j:(i+1)*c.size<=s.tk.length*c.size:=lS _ d;rw[zB O];have e:((y:Int)-((s.st*256:Nat):Int)).toNat=y-s.st*256:=by omega
  rw[e]
  congr 1
  rw[zm]at b;refine Nat.div_eq_of_lt_le ?_ ?_
  ·omega
  ·rw[zm];omega
theorem Ue {c:bZ}{s:cG}{x:Int}{i:Nat}(hc:0<c.size):obj c s x=some i↔x=((at_ c s i:Nat):Int)/\i<s.tk.length:=by
 unfold obj;constructor
 ·intro h;split at h
  ·rename_i j hj;split at h
   ·cases h;rename_i he;exact⟨he,((VP hc).1 hj).2.2⟩
   ·cases h
  ·cases h
 ·rintro⟨rfl,hi⟩;have:idx c s ((at_ c s i:Nat):Int)=some i:=(VP hc).2 ⟨uI _,by unfold at_;rw[zm];omega,hi⟩;rw[this];simp
def low (s:cG):Option Nat:=s.tk.findIdx? (· == false)
def cG.put (s:cG)(i:Nat)(v:Bool):cG:={s with tk:=s.tk.set i v}
def kB (c:bZ)(ss:List cG)(x:Int):Option Nat:=ss.findIdx? λs=>(idx c s x).isSome
def dY (c:bZ)(ss:List cG)(x:Int):Option Bool:=match kB c ss x with
 | some k=>match ss[k]? with
  | some s=>(obj c s x).map λi=>s.tk.getD i false
  | none=>none
 | none=>none
def wx (x y:cG):Bool:=decide (x.many>y.many)||(x.many==y.many&&decide (x.st<y.st))
def Y9 (ss:List cG):Nat->Option Nat
 | 0=>none
 | k+1=>match ss[k]? with
  | some x=>if x.many<x.tk.length then(match Y9 ss k with
   | some j=>match ss[j]? with
    | some y=>if wx x y then some k else some j
    | none=>some k
   | none=>some k)else Y9 ss k
  | none=>Y9 ss k
def iH (ss:List cG):Option Nat:=Y9 ss ss.length
def iY (c:bZ)(ss:List cG):Option (Nat×List cG):=match iH ss with
 | some k=>match ss[k]? with
  | some s=>match low s with
   | some i=>some (at_ c s i,ss.set k (s.put i true))
   | none=>none
  | none=>none
 | none=>none
def QT (c:bZ):Nat->List cG->List Nat×List cG
 | 0,ss=>([],ss)
 | m+1,ss=>match iY c ss with
  | some (x,ss')=>let r:=QT c m ss';(x::r.1,r.2)
  | none=>([],ss)
def iA (c:bZ)(ss:List cG)(xs:List Int):Int:=
 if xs.any (λx=>(dY c ss x).isNone)then 8 else if xs.any (λx=>dY c ss x==some false) || !decide xs.Nodup then 9 else 0
def fF (c:bZ)(ss:List cG)(x:Int):List cG:=match kB c ss x with
 | some k=>match ss[k]? with
  | some s=>match obj c s x with
   | some i=>ss.set k (s.put i false)
   | none=>ss
  | none=>ss
 | none=>ss
def cF (ss:List cG):List cG:=ss.filter λs=>s.many != 0
def Qc (ss:List cG):List Nat:=(ss.filter λs=>s.many==0).map (·.st)
def pM (c:bZ)(ss:List cG)(x:Int):Option Nat:=match kB c ss x with
 | some k=>match ss[k]? with
  | some s=>(idx c s x).map (at_ c s)
  | none=>none
 | none=>none
def ie (c:bZ)(ss:List cG)(st:Nat):List cG:=ss.takeWhile (λs=>s.st<st)++⟨st,List.replicate c.n false⟩::ss.dropWhile (λs=>s.st<st)
def HX (c:bZ)(ss:List cG)(x:Nat):Int:=if ss.any (λs=>max s.st x-min s.st x<c.aF)then 9 else 0
def nN (ss:List cG):Nat:=(ss.map λs=>s.tk.length-s.many).sum
structure gE where
 low:Nat
 bs:List (List Int)
 deriving DecidableEq
def gg {α:Type}(l:List α)(a b:Nat)(v:α):List α:=l.mapIdx λi x=>if a<=i/\i<b then v else x
theorem Kv {α:Type}(l:List α)(a b:Nat)(v:α):(gg l a b v).length=l.length:=by simp[gg]
theorem UV {α:Type}(l:List α)(a b:Nat)(v:α)(i:Nat):(gg l a b v)[i]?=(l[i]?).map λx=>if a<=i/\i<b then v else x:=by
 simp[gg,List.getElem?_mapIdx]
theorem JK {α:Type}{l:List α}{a b:Nat}{v:α}(h1:a<=b)(h2:b<=l.length):gg l a b v=l.take a++List.replicate (b-a) v++l.drop b:=by
 apply zo;intro i;rw[UV];rcases ku i a with h|h
 ·rw[zz,zh aE,zj,zC h];have:l[i]?=some l[i]:=cV O;rw[this];simp;omega
 rcases ku i b with h'|h'
 ·rw[zz,zp aE,zh aE];have:l[i]?=some l[i]:=cV O;rw[this];simp[lX,h,h'];omega
 ·rw[zp aE];have e:i-(l.take a++List.replicate (b-a) v).length=i-b:=by simp;omega
  rw[e,kL,show b+(i-b)=i by omega];cases l[i]?<;>simp;omega
def sr (l:List Nat)(a b v:Nat):Nat:=((l.drop a).take (b-a)).count v
end Go.Ar
namespace Go.Bu
def full (S:Nat->Bool)(k q:Nat):Bool:=(List.range (2^k)).all λi=>S (q*2^k+i)
def can (S:Nat->Bool)(k q:Nat):Bool:=full S k q && !full S (k+1) (q/2)
theorem GW {k q i:Nat}(hi:i<2^k):(q*2^k+i)/2^k=q:=by
 rw[Nat.add_comm,Nat.add_mul_div_right _ _ (kF k),Nat.div_eq_of_lt hi,zH]
theorem HN {k q p:Nat}(h:p/2^k=q):p=q*2^k+p%2^k:=by
 rw[←h,Nat.mul_comm];exact(Nat.div_add_mod p (2^k)).symm
theorem ZZ {k q p:Nat}:p/2^k=q↔q*2^k<=p/\p<q*2^k+2^k:=by
 have a:=kF k;constructor
 ·intro h;have:=HN h;have b:=tZ p a;omega
 ·rintro⟨h1,h2⟩;have:p=q*2^k+(p-q*2^k):=by omega
  rw[this];exact GW O
theorem Yv {S:Nat->Bool}{k q:Nat}:full S k q=true↔∀p,p/2^k=q->S p=true:=by
 simp only[full,jW,zc];constructor
 ·intro h p hp;have:=h (p%2^k) (tZ _ (kF k))
  rwa [←HN hp]at this
 ·intro h i hi;exact h _ (GW hi)
theorem Zu {S:Nat->Bool}{k q:Nat}:can S k q=true↔full S k q=true/\¬full S (k+1) (q/2)=true:=by
 simp[can]
theorem GT {p k j:Nat}(h:k<=j):p/2^j=p/2^k/2^(j-k):=by
 rw[sS,←Nat.pow_add]
 congr 2;omega
theorem DK {S:Nat->Bool}{k j q:Nat}(h:k<=j)(hf:full S j (q/2^(j-k))=true):full S k q=true:=by
 rw[Yv]at hf ⊢;intro p hp;exact hf p (by rw[GT h,hp])
theorem Dr {q k j:Nat}(h:k<j):q/2/2^(j-(k+1))=q/2^(j-k):=by
 rw[sS]
 congr 1
 rw[←Nat.pow_succ']
 congr 1;omega
theorem QD {S:Nat->Bool}{k j q r p:Nat}(hk:can S k q=true)(hj:full S j r=true)(hp:p/2^k=q)(hr:p/2^j=r)(h:k<j):False:=by
 rw[Zu]at hk;refine hk.2 (DK (j:=j) O ?_);rw[Dr h,←hp,←GT (sO h),hr];exact hj
theorem FO {S:Nat->Bool}{k j q r p:Nat}(hk:can S k q=true)(hj:can S j r=true)(hp:p/2^k=q)(hr:p/2^j=r):k=j/\q=r:=by
 rcases oZ k j with h|h|h
 ·exact(QD hk (Zu.1 hj).1 hp hr h).elim
 ·subst h;exact⟨rfl,hp.symm.trans hr⟩
 ·exact(QD hj (Zu.1 hk).1 hr hp h).elim
def Bounded (S:Nat->Bool)(n:Nat):Prop:=∀p,S p=true->p<n
theorem ZD {S:Nat->Bool}{n k q:Nat}(hb:Bounded S n)(h:full S k q=true):q*2^k+2^k<=n:=by
 rw[Yv]at h;have a:=kF k;have:=hb _ (h (q*2^k+(2^k-1)) (GW O));omega
theorem OO {S:Nat->Bool}{p:Nat}:full S 0 p=S p:=by simp[full]
theorem Ul {S:Nat->Bool}{n p:Nat}(hb:Bounded S n)(hp:S p=true):∃k,can S k (p/2^k)=true:=by
 apply Classical.byContradiction;intro hno;have all:∀k,full S k (p/2^k)=true:=by
  intro k
  induction k with
  | zero=>simpa[OO]using hp
  | succ k ih=>
   apply Classical.byContradiction;intro hn;refine hno ⟨k,Zu.2 ⟨ih,?_⟩⟩;rw[sS,←lW];exact hn
 have:=ZD hb (all n);have:=@Nat.lt_two_pow_self n;omega
theorem VJ {S:Nat->Bool}{k q p:Nat}(h:can S k q=true)(hp:p/2^k=q):S p=true:=Yv.1 (Zu.1 h).1 p hp
def del (S:Nat->Bool)(k q:Nat):Nat->Bool:=λp=>S p && !(p/2^k==q)
def ins (S:Nat->Bool)(k q:Nat):Nat->Bool:=λp=>S p||p/2^k==q
theorem Vm {S:Nat->Bool}{k q p:Nat}:del S k q p=true↔S p=true/\p/2^k≠q:=by simp[del]
theorem Vl {S:Nat->Bool}{k q p:Nat}:ins S k q p=true↔S p=true\/p/2^k=q:=by simp[ins]
theorem Kw (k q:Nat):(q*2^k)/2^k=q:=yE _ (kF k)
theorem BM {S:Nat->Bool}{k q j r:Nat}(hc:can S k q=true):can (del S k q) j r=true↔can S j r=true/\¬(j=k/\r=q):=by
 constructor
 ·intro h;obtain⟨i,u⟩:=Zu.1 h;rw[Yv]at i;have s:full S j r=true:=Yv.2 λp b=>(Vm.1 (i p b)).1;refine⟨Zu.2 ⟨s,λg=>u (Yv.2 λp b=>?_)⟩,?_⟩
  ·refine Vm.2 ⟨Yv.1 g p b,λd=>?_⟩;rcases ku k (j+1)with m|m
   ·exact QD hc g d b m
   ·-- the greater Zd lies in the block
    have a:=Kw j r;have x:=(Vm.1 (i _ a)).2;apply x;rw[GT (show j+1<=k by omega)];have e:r*2^j/2^(j+1)=r/2:=by
     rw[lW,←sS,a]
    rw[e,←b,←GT (show j+1<=k by omega),d]
  ·rintro⟨rfl,rfl⟩;exact(Vm.1 (i _ (Kw _ _))).2 (Kw _ _)
 ·rintro⟨h,hne⟩;obtain⟨i,u⟩:=Zu.1 h;refine Zu.2 ⟨Yv.2 λp b=>Vm.2 ⟨Yv.1 i p b,λd=>hne ?_⟩,λg=>u (Yv.2 λp b=>(Vm.1 (Yv.1 g p b)).1)⟩;obtain⟨m,w⟩:=FO h hc b d;exact⟨m,w⟩
theorem xX {S:Nat->Bool}{k q j r:Nat}(hd:∀p,p/2^k=q->S p=false)(hup:¬full (ins S k q) (k+1) (q/2)=true) :
 can (ins S k q) j r=true↔can S j r=true\/(j=k/\r=q):=by
 have g:can (ins S k q) k q=true:=Zu.2 ⟨Yv.2 λp d=>Vl.2 (.inr d),hup⟩;constructor
 ·intro h;by_cases he:j=k/\r=q
  ·exact .inr he
  left;obtain⟨i,m⟩:=Zu.1 h;refine Zu.2 ⟨Yv.2 λp d=>?_,λb=>m (Yv.2 λp d=>Vl.2 (.inl (Yv.1 b p d)))⟩;rcases Vl.1 (Yv.1 i p d)with h1|h1
  ·exact h1
  ·exact(he (FO h g d h1)).elim
 ·rintro(h|⟨rfl,rfl⟩)
  ·obtain⟨i,m⟩:=Zu.1 h;refine Zu.2 ⟨Yv.2 λp d=>Vl.2 (.inl (Yv.1 i p d)),λb=>m (Yv.2 λp d=>?_)⟩;rcases Vl.1 (Yv.1 b p d)with h1|h1
   ·exact h1
   ·rcases ku k (j+1)with h2|h2
    ·refine(hup (DK (j:=j+1) O ?_)).elim;have e:q/2^(j+1-k)=r/2:=by rw[←h1,←GT (show k<=j+1 by omega),d]
     rw[Dr h2,e];exact b
    ·have a:=Kw j r;have s:=Yv.1 i _ a;have e:r*2^j/2^(j+1)=r/2:=by
      rw[lW,←sS,a]
     have:r*2^j/2^k=q:=by
      rw[GT h2,e,←d,←GT h2,h1]
     rw[hd _ this]at s;cases s
  ·exact g
def gU (q:Nat):Nat:=if q%2=0 then q+1 else q-1
theorem Ev (q:Nat):gU q/2=q/2:=by unfold gU;split<;>omega
theorem Pw (q:Nat):gU q≠q:=by unfold gU;split<;>omega
theorem N9 {q r:Nat}(h:r/2=q/2):r=q\/r=gU q:=by unfold gU;split<;>omega
theorem U2 {k q p:Nat}:p/2^(k+1)=q/2↔p/2^k=q\/p/2^k=gU q:=by
 rw[lW,←sS];constructor
 ·intro h;exact N9 h
 ·rintro(h|h)<;>rw[h]
  exact Ev q
theorem JU {T:Nat->Bool}{k q:Nat}(hd:∀p,p/2^k=q->T p=false)(hm:¬can T k (gU q)=true):¬full (ins T k q) (k+1) (q/2)=true:=by
 intro hup;have a:full T k (gU q)=true:=Yv.2 λp d=>by
  rcases Vl.1 (Yv.1 hup p (U2.2 (.inr d)))with h|h
  ·exact h
  ·exact(Pw q (d.symm.trans h)).elim
 have:full T (k+1) (gU q/2)=true:=Classical.byContradiction λh=>hm (Zu.2 ⟨a,h⟩);rw[Ev]at this;have b:=Yv.1 this (q*2^k) (U2.2 (.inl (Kw k q)));rw[hd _ (Kw k q)]at b;cases b
def dD (S:Nat->Bool)(a b:Nat):Nat->Bool:=λp=>S p||(decide (a<=p)&&decide (p<b))
def take (S:Nat->Bool)(a b:Nat):Nat->Bool:=λp=>S p && !(decide (a<=p)&&decide (p<b))
theorem QZ {S:Nat->Bool}{a b p:Nat}:dD S a b p=true↔S p=true\/(a<=p/\p<b):=by simp[dD]
theorem Kq {S:Nat->Bool}{a b p:Nat}:take S a b p=true↔S p=true/\¬(a<=p/\p<b):=by
 simp[take];intro _;omega
theorem sx {S T:Nat->Bool}(h:∀p,S p=true↔T p=true):S=T:=by
 funext p
 have:=h p;cases hs:S p<;>cases ht:T p<;>simp_all
theorem OA (S:Nat->Bool)(k q:Nat):ins S k q=dD S (q*2^k) (q*2^k+2^k):=
 sx λp=>by rw[Vl,QZ,ZZ]
theorem Rb {S:Nat->Bool}{a b c:Nat}(h1:a<=b)(h2:b<=c):dD (dD S a b) b c=dD S a c:=
 sx λp=>by simp only[QZ];cases S p<;>simp<;>omega
theorem Nt (S:Nat->Bool)(a:Nat):dD S a a=S:=sx λp=>by simp only[QZ];cases S p<;>simp<;>omega
theorem N8 (S:Nat->Bool)(a:Nat):take S a a=S:=sx λp=>by simp only[Kq];cases S p<;>simp<;>omega
def many (n:Nat)(S:Nat->Bool)(k:Nat):Nat:=(List.range n).countP (can S k)
def Sq (S:Nat->Bool)(K p:Nat):Bool:=(List.range K).any λk=>can S k (p/2^k)
end Go.Bu
namespace Go.Vc
open Go
abbrev Hp:=Array Obj
abbrev _root_.aN:=Int->Hp->Prop
abbrev _root_.aO:=Bool->Hp->Prop
abbrev _root_.aP:=Hp->Prop
structure Sl where
 a:Option Addr
 len:Nat
 cap:Nat
structure Fv where
 f:Nat
 first:Array Value
 captured:Array Value
inductive CK where
 | i (k:IntKind)|b|p|s|m|str|fn|raw|ag (n:Nat)|ad
 deriving DecidableEq
abbrev _root_.bN:CK:=.i .i64
@[reducible] def je:Nat->Type
 | 0=>Unit
 | 1=>Int
 | n+2=>Int×je (n+1)
def je.vs:(n:Nat)->je n->List Value
 | 0,_=>[]
 | 1,x=>[.int .i64 x]
 | n+2,x=>.int .i64 x.1::je.vs (n+1) x.2
@[reducible] def CK.T:CK->Type
 | .i _=>Int
 | .b=>Bool
 | .p=>Option Addr
 | .s=>Sl
 | .m=>Option Nat
 | .str=>ByteArray
 | .fn=>Fv
 | .raw=>Value
 | .ag n=>je n
 | .ad=>Addr
def CK.v:(c:CK)->c.T->Value
 | .i k,y=>.int k y
 | .b,x=>.bool x
 | .p,y=>.pointer y
 | .s,y=>.slice y.a y.len y.cap
 | .m,y=>.map y
 | .str,x=>.string x
 | .fn,x=>.func (.func x.f) x.first x.captured
 | .raw,y=>y
 | .ag n,y=>.agg (je.vs n y).toArray
 | .ad,y=>.pointer (some y)
inductive SK where
 | one (c:CK)
 | agg (cs:List CK)
def SK.ks:SK->List CK
 | .one c=>[c]
 | .agg cs=>cs
def eT:List SK->List CK
 | []=>[]
 | s::ss=>s.ks++eT ss
@[reducible] def eR:List CK->Type
 | []=>Hp->Prop
 | c::cs=>c.T->eR cs
@[reducible] def oF:List CK->Type
 | []=>Hp->Nat
 | c::cs=>c.T->oF cs
def Sat:(ks:List CK)->eR ks->List Value->Hp->Prop
 | [],R,[],h=>R h
 | c::cs,R,v::vs,h=>∃x:c.T,v=c.v x/\Sat cs (R x) vs h
 | _,_,_,_=>False
def eR.le:(ks:List CK)->eR ks->eR ks->Prop
 | [],R,R'=>∀h,R h->R' h
 | c::cs,R,R'=>∀x:c.T,eR.le cs (R x) (R' x)
def lam:(ks:List CK)->(List Value->Hp->Prop)->eR ks
 | [],K=>K []
 | c::cs,K=>λx=>lam cs λvs=>K (c.v x::vs)
def vV:(n:Nat)->List Value->(je n->Prop)->Prop
 | 0,[],K=>K ()
 | 1,[.int .i64 x],K=>K x
 | n+2,.int .i64 x::vs,K=>vV (n+1) vs λy=>K (x,y)
 | _,_,_=>False
theorem DN:∀{n:Nat} {vs:List Value} {K:je n->Prop},vV n vs K->∃x,vs=je.vs n x/\K x:=by
 intro n vs K h;unfold vV at h;split at h
 ·exact⟨(),rfl,h⟩
 ·exact⟨_,rfl,h⟩
 ·obtain⟨y,rfl,a⟩:=DN h;exact⟨_,rfl,a⟩
 ·exact h.elim
def mO:(c:CK)->Value->(c.T->Prop)->Prop
 | .i k,.int k' n,K=>if k=k' then K n else False
 | .b,.bool x,K=>K x
 | .p,.pointer a,K=>K a
 | .s,.slice a l c,K=>K ⟨a,l,c⟩
 | .m,.map r,K=>K r
 | .str,.string s,K=>K s
 | .fn,.func (.func f) x y,K=>K ⟨f,x,y⟩
 | .raw,v,K=>K v
 | .ag n,.agg cs,K=>vV n cs.toList K
 | .ad,.pointer (some a),K=>K a
 | _,_,_=>False
def rj:(ks:List CK)->eR ks->List Value->Hp->Prop
 | [],R,[],h=>R h
 | c::cs,R,v::vs,h=>mO c v λx=>rj cs (R x) vs h
 | _,_,_,_=>False
theorem Vp {c:CK}{v:Value}{K:c.T->Prop}(h:mO c v K):∃x,v=c.v x/\K x:=by
 cases c<;>cases v<;>simp only[mO]at h<;>try exact h.elim
 case i.int k k' n=>split at h<;>first|exact h.elim | (rename_i e;subst e;exact⟨n,rfl,h⟩)
 case fn.func f x y=>cases f<;>simp only[mO]at h<;>first|exact h.elim|exact⟨⟨_,x,y⟩,rfl,h⟩
 case b.bool x=>exact⟨x,rfl,h⟩
 case p.pointer a=>exact⟨a,rfl,h⟩
 case s.slice a l c=>exact⟨⟨a,l,c⟩,rfl,h⟩
 case m.map r=>exact⟨r,rfl,h⟩
 case str.string s=>exact⟨s,rfl,h⟩
 case ad.pointer p=>cases p<;>simp only[mO]at h<;>first|exact h.elim|exact⟨_,rfl,h⟩
 case ag.agg n cs=>obtain⟨x,e,d⟩:=DN h;exact⟨x,by simp only[CK.v,←e],d⟩
 all_goals exact⟨_,rfl,h⟩
theorem FI:∀(n:Nat) (x:je n) (K:je n->Prop),vV n (je.vs n x) K=K x
 | 0,_,_=>rfl
 | 1,_,_=>rfl
 | n+2,x,K=>FI (n+1) x.2 _
theorem Rx (c:CK)(x:c.T)(K:c.T->Prop):mO c (c.v x) K=K x:=by
 cases c<;>simp[mO,CK.v]
 exact iff_of_eq (FI _ _ _)
theorem UI:∀{ks:List CK} {R:eR ks} {vs:List Value} {h:Hp},rj ks R vs h->Sat ks R vs h
 | [],_,[],_,h=>h
 | _::_,_,_::_,_,h=>by
  obtain⟨x,e,hx⟩:=Vp h;exact⟨x,e,UI hx⟩
 | [],_,_::_,_,h=>h.elim
 | _::_,_,[],_,h=>h.elim
theorem Sat.mono:∀{ks:List CK} {R R':eR ks},eR.le ks R R'->∀{vs:List Value} {h:Hp},Sat ks R vs h->Sat ks R' vs h
 | [],_,_,hl,[],_,h=>hl _ h
 | _::_,_,_,hl,_::_,_,⟨x,e,h⟩=>⟨x,e,Sat.mono (hl x) h⟩
 | [],_,_,_,_::_,_,h=>h.elim
 | _::_,_,_,_,[],_,h=>h.elim
theorem VB:∀{ks:List CK} {K:List Value->Hp->Prop} {vs:List Value} {h:Hp},Sat ks (lam ks K) vs h->K vs h
 | [],_,[],_,h=>h
 | _::_,K,v::vs,h,hs=>by
  obtain⟨x,rfl,h'⟩:=hs;exact VB (K:=λvs=>K (CK.v _ x::vs)) h'
 | [],_,_::_,_,h=>h.elim
 | _::_,_,[],_,h=>h.elim
abbrev Env:=Nat->Option Value
def Env.nil:Env:=λ_=>none
def Env.put (ρ:Env)(d:Nat)(v:Value):Env:=λi=>bif Nat.beq i d then some v else ρ i
def Env.ib (ρ:Env):Option Nat->Value->Env
 | some d,v=>ρ.put d v
 | none,_=>ρ
def Env.dT (ρ:Env)(ds:List Nat):Env:=λi=>bif ds.contains i then none else ρ i
def ev (ρ:Env):Operand->Option Value
 | .tmp t=>ρ t
 | .const v=>some v
 | .global g=>some (.pointer (some ⟨g,0,none⟩))
 | .func f=>some (.func (.func f) #[] #[])
def wv (o:Option Value)(K:Value->Prop):Prop:=match o with|some v=>K v|none=>False
def pa (ρ:Env):List Operand->Option (List Value)
 | []=>some []
 | o::os=>match ev ρ o,pa ρ os with|some v,some vs=>some (v::vs)|_,_=>none
def cell (h:Hp)(a:Addr):Option Value:=
 match h[a.block]? with
 | some (.cells c _ _)=>if a.spot.isSome then none else c[a.off]?
 | _=>none
def nf (h:Hp)(a:Addr):Bool:=
 match h[a.block]? with
 | some (.cells _ _ (lo,hi))=>lo<=a.off&&a.off<hi
 | _=>false
def jQ (h:Hp)(a:Addr)(v:Value):Hp:=
 h.modify a.block fun
  | .cells c elem frozen=>.cells (if a.spot.isSome then c else c.setIfInBounds a.off v) elem frozen
  | o=>o
def gA (k:IntKind)(a:Addr)(h:Hp)(K:Int->Prop):Prop:=∃n,cell h a=some (.int k n)/\K n
def lg (a:Addr)(h:Hp)(K:Bool->Prop):Prop:=∃n,cell h a=some (.bool n)/\K n
def fU (a:Addr)(h:Hp)(K:Option Addr->Prop):Prop:=∃n,cell h a=some (.pointer n)/\K n
def jq (a:Addr)(h:Hp)(K:Sl->Prop):Prop:=∃n:Sl,cell h a=some (.slice n.a n.len n.cap)/\K n
def kZ (a:Addr)(h:Hp)(K:Option Nat->Prop):Prop:=∃n,cell h a=some (.map n)/\K n
def wg (a:Addr)(h:Hp)(K:ByteArray->Prop):Prop:=∃n,cell h a=some (.string n)/\K n
def IF (a:Addr)(h:Hp)(K:Fv->Prop):Prop:=∃n:Fv,cell h a=some (.func (.func n.f) n.first n.captured)/\K n
def yl (a:Addr)(h:Hp)(K:Value->Prop):Prop:=∃n,cell h a=some n/\K n
def IC (n:Nat)(a:Addr)(h:Hp)(K:je n->Prop):Prop:=∃x,cell h a=some (CK.v (.ag n) x)/\K x
def Aa (a:Addr)(h:Hp)(K:Addr->Prop):Prop:=∃x,cell h a=some (.pointer (some x))/\K x
def xK:(c:CK)->Addr->Hp->(c.T->Prop)->Prop
 | .i k,a,h,K=>gA k a h K
 | .b,a,h,K=>lg a h K
 | .p,a,h,K=>fU a h K
 | .s,a,h,K=>jq a h K
 | .m,a,h,K=>kZ a h K
 | .str,a,h,K=>wg a h K
 | .fn,a,h,K=>IF a h K
 | .raw,a,h,K=>yl a h K
 | .ag n,a,h,K=>IC n a h K
 | .ad,a,h,K=>Aa a h K
def nc:List CK->Addr->Nat->Hp->(List Value->Prop)->Prop
 | [],_,_,_,K=>K []
 | c::cs,a,i,h,K=>xK c (a.add i) h λx=>nc cs a (i+1) h λvs=>K (c.v x::vs)
def j5 (v:Value)(t:TypeId)(vs zs:List Value)(b:Bool):Prop:=match b with
 | true=>v=.iface t (.agg vs.toArray)
 | false=>vs=zs/\(v=.nilIface\/∃t' u,v=.iface t' u/\t'≠t)
def ve (v:Value)(t:TypeId)(zs:List Value):List CK->List Value->(List Value->Bool->Prop)->Prop
 | [],acc,K=>∃b:Bool,j5 v t acc zs b/\K acc b
 | c::cs,acc,K=>∃x:c.T,ve v t zs cs (acc++[c.v x]) K
theorem ve.out {v:Value}{t:TypeId}{zs:List Value}:∀{cs:List CK} {acc:List Value} {K:List Value->Bool->Prop},ve v t zs cs acc K->∃vs b,j5 v t vs zs b/\K vs b
 | [],acc,K,⟨b,h1,h2⟩=>⟨acc,b,h1,h2⟩
 | c::cs,acc,K,⟨x,h⟩=>ve.out h
def iR (v:Value):Prop:=v=.nilIface\/∃t u,v=.iface t u
def kq:Value->Bool
 | .nilIface=>true
 | _=>false
def O1 (v:Value)(A:Prop):Prop:=match v with
 | .agg _=>False
 | .tuple _=>False
 | _=>A
def xR:List Value->Prop->Prop
 | [],A=>A
 | v::vs,A=>O1 v (xR vs A)
def bU (p:Option Addr)(K:Addr->Prop):Prop:=∃a,p=some a/\K a
def Ar (k:IntKind)(e:Int)(K:Int->Prop):Prop:=K (k.wrap e)
def Nz (y:Int)(A:Prop):Prop:=y≠0/\A
def Nn (y:Int)(A:Prop):Prop:=0<=y/\A
def Ix (base:Option Addr)(len:Nat)(i:Int)(sz:Nat)(K:Addr->Prop):Prop:=∃a,base=some a/\0<=i/\i<(len:Int)/\K (a.add (i.toNat*sz))
def nL (a:Addr)(len:Nat)(i:Int)(sz:Nat)(K:Addr->Prop):Prop:=0<=i/\i<(len:Int)/\K (a.add (i.toNat*sz))
def IV (s:ByteArray)(i:Int)(K:Int->Prop):Prop:=∃b,0<=i/\s[i.toNat]?=some b/\K (b.toNat:Int)
def If (b:Bool)(A B:Prop):Prop:=match b with
 | true=>A
 | false=>B
theorem If.t {b:Bool}{A B:Prop}(h:If b A B)(e:b=true):A:=by subst e;exact h
theorem If.f {b:Bool}{A B:Prop}(h:If b A B)(e:b=false):B:=by subst e;exact h
theorem If.mk {b:Bool}{A B:Prop}(h1:b=true->A)(h2:b=false->B):If b A B:=by cases b;exact h2 rfl;exact h1 rfl
def Nw (o:Obj)(h:Hp)(K:Addr->Hp->Prop):Prop:=K ⟨h.size,0,none⟩ (h.push o)
def dX (a:Addr)(v:Value)(h:Hp)(K:aP):Prop:=(cell h a).isSome=true/\nf h a=false/\K (jQ h a v)
def nh (a:Addr)(h:Hp):List Value->Nat->(Hp->Prop)->Prop
 | [],_,K=>K h
 | v::vs,i,K=>dX (a.add i) v h λh'=>nh a h' vs (i+1) K
def eY (s:Sl)(sz:Nat)(lo hi mx:Int)(K:Sl->Prop):Prop:=
 0<=lo/\lo<=hi/\hi<=mx/\mx<=(s.cap:Int)/\K ⟨if mx.toNat=lo.toNat then s.a else s.a.map (·.add (lo.toNat*sz)),hi.toNat-lo.toNat,mx.toNat-lo.toNat⟩
def dL (h:Hp)(r:Nat)(k:IntKind)(c:CK)(l:List (Int×c.T)):Prop:=
 ∃es clk,h[r]?=some (.map es clk)/\es.toList.map (λe=>(e.key,e.val))=l.map (λx=>(Value.int k x.1,c.v x.2)) ∧
  (l.map (·.1)).Nodup/\(es.toList.map (·.born)).Pairwise (· < ·)/\∀e∈es.toList,e.born<clk
def jc (h:Hp)(m:Option Nat)(k:IntKind)(c:CK)(l:List (Int×c.T)):Prop:=
 match m with
 | none=>l=[]
 | some r=>dL h r k c l
def bW {α:Type}(l:List (Int×α))(n:Int):Option α:=(l.find? λx=>x.1==n).map (·.2)
def dB {α:Type}(l:List (Int×α))(n:Int)(v:α):List (Int×α):=
 if l.any (λx=>x.1==n)then l.map (λx=>if x.1==n then(n,v)else x)else l++[(n,v)]
def cS {α:Type}(l:List (Int×α))(n:Int):List (Int×α):=l.filter λx=>!(x.1==n)
def Qk (h h':Hp)(r:Nat):Prop:=h'.size=h.size/\∀b,b≠r->h'[b]?=h[b]?
def Lk (k:IntKind)(c:CK)(m:Option Nat)(n:Int)(h:Hp)(K:Option c.T->Prop):Prop:=∃l,jc h m k c l/\K (bW l n)
def qE (k:IntKind)(c:CK)(m:Option Nat)(h:Hp)(K:Int->Prop):Prop:=∃l,jc h m k c l/\K (l.length:Int)
def kc (k:IntKind)(c:CK)(m:Option Nat)(n:Int)(x:c.T)(h:Hp)(K:aP):Prop:=
 ∃r l,m=some r/\dL h r k c l/\∀h',Qk h h' r->dL h' r k c (dB l n x)->K h'
def lJ (k:IntKind)(c:CK)(m:Option Nat)(n:Int)(h:Hp)(K:aP):Prop:=
 ∃l,jc h m k c l/\∀h',(∀r,m=some r->Qk h h' r)->(m=none->h'=h)->jc h' m k c (cS l n)->K h'
def It (h:Hp)(r:Nat)(k:IntKind)(c:CK)(m:Option Nat)(l todo:List (Int×c.T))(cur:Option (Int×c.T)):Prop:=
 match m with
 | none=>l=[]/\todo=[]/\cur=none/\∃s q y,h[r]?=some (.mapIter none s q y)
 | some b=>∃es clk seen,h[r]?=some (.mapIter (some b) clk seen clk)/\h[b]?=some (.map es clk)/\es.toList.map (λe=>(e.key,e.val))=l.map (λx=>(Value.int k x.1,c.v x.2)) ∧
  (l.map (·.1)).Nodup/\(es.toList.map (·.born)).Pairwise (· < ·)/\(∀e∈es.toList,e.born<clk) ∧
  (es.toList.filter λe=>!seen.contains e.born).map (λe=>(e.key,e.val))=todo.map (λx=>(Value.int k x.1,c.v x.2)) ∧
  (∀x,cur=some x->∃e∈es.toList,seen.back?=some e.born/\e.key=.int k x.1/\e.val=c.v x.2)
def nC (k:IntKind)(c:CK)(m:Option Nat)(h:Hp)(K:Addr->Hp->Prop):Prop:=
 ∃l,jc h m k c l/\∀h',h'.size=h.size+1->(∀b,b<h.size->h'[b]?=h[b]?)->It h' h.size k c m l l none->K ⟨h.size,0,none⟩ h'
def nF (k:IntKind)(c:CK)(a:Addr)(h:Hp)(A:Prop)(B:Int->c.T->Hp->Prop):Prop:=
 a.off=0/\∃m l todo cur,It h a.block k c m l todo cur/\(todo=[]->A) ∧
  ∀n x,(n,x)∈todo->∀h',Qk h h' a.block->It h' a.block k c m l (todo.filter λy=>!(y.1==n)) (some (n,x))->B n x h'
def nJ (k:IntKind)(c:CK)(a:Addr)(h:Hp)(K:Int->c.T->Prop):Prop:=
 a.off=0/\∃m l todo n x,It h a.block k c m l todo (some (n,x))/\K n x
def dQ:Value->Bool
 | .agg _=>false
 | .tuple _=>false
 | _=>true
def Rd (h:Hp)(a:Option Addr)(xs:List Value):Prop:=
 match a with
 | none=>xs=[]
 | some a=>∀j v,xs[j]?=some v->cell h (a.add j)=some v
def EP (s:Sl)(h:Hp)(K:ByteArray->Prop):Prop:=∃bs:List Int,bs.length=s.len/\Rd h s.a (bs.map (.int .u8))/\K ⟨(bs.map λn=>UInt8.ofNat n.toNat).toArray⟩
def App (s:Sl)(sz bytes:Nat)(e:Nat)(zs:List Value)(x:Sl)(h:Hp)(K:Sl->Hp->Prop):Prop:=
 ∃xs ys,xs.length=s.len*sz/\ys.length=x.len*sz/\Rd h s.a xs/\Rd h x.a ys/\(∀v∈ys,dQ v=true)/\(s.len+x.len)*bytes<=2^46/\s.len+x.len<=2^62 ∧
  (s.len+x.len<=s.cap->match s.a with
   | some a=>nh (a.add (s.len*sz)) h ys 0 λh'=>K ⟨s.a,s.len+x.len,s.cap⟩ h'
   | none=>K ⟨none,s.len+x.len,s.cap⟩ h) ∧
  (¬s.len+x.len<=s.cap->∀c,s.len+x.len<=c->Nw (.cells (xs++ys++(List.replicate (c-(s.len+x.len)) zs).flatten).toArray e) h λa h'=>K ⟨some a,s.len+x.len,c⟩ h')
def sJ (s:Sl)(sz bytes:Nat)(e:Nat)(zs:List Value)(n:Int)(h:Hp)(K:Sl->Hp->Prop):Prop:=
 0<=n/\∃xs,xs.length=s.len*sz/\Rd h s.a xs/\(∀v∈zs,dQ v=true)/\(s.len+n.toNat)*bytes<=2^46/\s.len+n.toNat<=2^62/\(n.toNat:Int)*bytes<=2^46 ∧
  (s.len+n.toNat<=s.cap->match s.a with
   | some a=>nh (a.add (s.len*sz)) h (List.replicate n.toNat zs).flatten 0 λh'=>K ⟨s.a,s.len+n.toNat,s.cap⟩ h'
   | none=>K ⟨none,s.len+n.toNat,s.cap⟩ h) ∧
  (¬s.len+n.toNat<=s.cap->∀c,s.len+n.toNat<=c->Nw (.cells (xs++(List.replicate n.toNat zs).flatten++(List.replicate (c-(s.len+n.toNat)) zs).flatten).toArray e) h λa h'=>K ⟨some a,s.len+n.toNat,c⟩ h')
def sQ (d:Sl)(sz:Nat)(s:Sl)(h:Hp)(K:aN):Prop:=
 ∃xs,xs.length=min s.len d.len*sz/\Rd h s.a xs/\(∀v∈xs,dQ v=true)/\match d.a with
  | some a=>nh a h xs 0 λh'=>K ((min s.len d.len:Nat):Int) h'
  | none=>K ((min s.len d.len:Nat):Int) h
def xN (s:Sl)(zs:List Value)(h:Hp)(K:aP):Prop:=
 (∀v∈zs,dQ v=true)/\match s.a with
  | some a=>nh a h (List.replicate s.len zs).flatten 0 K
  | none=>K h
def Mk (n c:Int)(bytes:Nat)(e:Nat)(zs:List Value)(h:Hp)(K:Sl->Hp->Prop):Prop:=
 0<=n/\n<=c/\(bytes:Int)*c<=2^46/\c<2^62/\Nw (.cells (List.replicate c.toNat zs).flatten.toArray e) h λa h'=>K ⟨some a,n.toNat,c.toNat⟩ h'
def Xb (w w':World):Prop:=w'.os=w.os/\w'.tape=w.tape/\w'.output=w.output/\w.heap.size<=w'.heap.size
def pD:List SK->List Value->List Value
 | [],_=>[]
 | .one _::ss,v::vs=>v::pD ss vs
 | .one _::ss,[]=>undef::pD ss []
 | .agg cs::ss,vs=>.agg (vs.take cs.length).toArray::pD ss (vs.drop cs.length)
def pack (rs:List SK)(vs:List Value):Value:=
 match pD rs vs with
 | [v]=>v
 | l=>.tuple l.toArray
def Wc (P:Program)(f:Nat)(args:Array Value)(rs:List SK)(h:Hp)(R:eR (eT rs)):Prop:=
 ∀w:World,w.heap=h->Calls P f args w λe w'=>Xb w w'/\∃vs,e=.returned (pack rs vs)/\Sat (eT rs) R vs w'.heap
theorem Wc.mono {P:Program}{f:Nat}{args:Array Value}{rs:List SK}{h:Hp}{R R':eR (eT rs)}(c:Wc P f args rs h R)(hl:eR.le (eT rs) R R'):Wc P f args rs h R':=
 λw a=>(c w a).mono λ_ _ ⟨b,vs,e,s⟩=>⟨b,vs,e,s.mono hl⟩
def iV (P:Program)(v:Value)(name:String)(args:List Value)(rs:List SK)(h:Hp)(R:eR (eT rs)):Prop:=
 ∃t u f,v=.iface t u/\(∀w,(method (P.types.size+Made.depth) t u name).run P w=.ok (f,u) w)/\(∀xs w,(callFunc f xs).run P w=.ok (.enter f xs) w)/\Wc P f (u::args).toArray rs h R
def D3 (P:Program)(fv:Fv)(args:List Value)(rs:List SK)(h:Hp)(R:eR (eT rs)):Prop:=
 Wc P fv.f (fv.first++args.toArray++fv.captured) rs h R
abbrev SK.I:SK:=.one bN
abbrev _root_.Go.Value.I (x:Int):Value:=.int .i64 x
def CV:TypeDesc->Option CK
 | .bool=>some .b
 | .int k=>some (.i k)
 | .string=>some .str
 | .pointer _=>some .p
 | .slice _=>some .s
 | .map _ _=>some .m
 | .func _ _ _=>some .fn
 | .interface _=>some .raw
 | _=>none
mutual
def Aq (P:Program):Nat->TypeId->Option (List CK)
 | 0,_=>none
 | n+1,t=>
  match P.underlying t with
  | some (.struct fs)=>ES P n fs.toList
  | some (.array m e)=>(Aq P n e).map λl=>(List.replicate m l).flatten
  | some d=>(CV d).map λc=>[c]
  | none=>none
def ES (P:Program):Nat->List Field->Option (List CK)
 | 0,_=>none
 | _+1,[]=>some []
 | n+1,f::fs=>match Aq P n f.type,ES P n fs with
  | some a,some b=>some (a++b)
  | _,_=>none
end
def Pu:SK->SK
 | .agg cs=>bif cs.all (· == .i .i64)then .one (.ag cs.length)else .agg cs
 | s=>s
def V7:TypeDesc->Bool
 | .struct _ | .array _ _=>true
 | _=>false
def jM (P:Program)(t:TypeId):Option SK:=
 match P.underlying t with
 | some d=>bif V7 d then(Aq P 24 t).map .agg else(CV d).map .one
 | none=>none
def od (P:Program)(t:TypeId):Option SK:=(jM P t).map Pu
def fQ (b:Bool)(A:Prop):Prop:=match b with|true=>A|false=>False
theorem Wu {b:Bool}{A:Prop}:fQ b A↔b=true/\A:=by cases b<;>simp[fQ]
def oW (op:BinOp)(k:IntKind)(x y:Int)(K:Value->Prop):Prop:=
 match op with
 | .add=>Ar k (x+y) λz=>K (.int k z)
 | .sub=>Ar k (x-y) λz=>K (.int k z)
 | .mul=>Ar k (x*y) λz=>K (.int k z)
 | .quo=>Nz y (Ar k (x.tdiv y) λz=>K (.int k z))
 | .rem=>Nz y (K (.int k (x.tmod y)))
 | .and=>K (.int k (bits .and k x y))
 | .or=>K (.int k (bits .or k x y))
 | .xor=>K (.int k (bits .xor k x y))
 | .andNot=>K (.int k (bits .andNot k x y))
 | .shl=>Nn y (Ar k (x*2^(min y.toNat k.bits)) λz=>K (.int k z))
 | .shr=>Nn y (K (.int k (x.fdiv (2^(min y.toNat k.bits)))))
 | .eql=>K (.bool (x==y))
 | .neq=>K (.bool (x != y))
 | .lss=>K (.bool (decide (x<y)))
 | .leq=>K (.bool (decide (x<=y)))
 | .gtr=>K (.bool (decide (x>y)))
 | .geq=>K (.bool (decide (x≥y)))
def mQ (op:BinOp)(b:Bool)(K:Value->Prop):Prop:=
 match op with
 | .eql=>K (.bool b)
 | .neq=>K (.bool (!b))
 | _=>False
def ly (P:Program)(op:BinOp)(t:TypeId)(x y:Value)(K:Value->Prop):Prop:=
 match P.underlying t,x,y with
 | some (.pointer _),.pointer p,.pointer none=>mQ op p.isNone K
 | some (.slice _),.slice p _ _,.slice none 0 0=>mQ op p.isNone K
 | some (.map _ _),.map p,.map none=>mQ op p.isNone K
 | some (.interface _),x,.nilIface=>iR x/\mQ op (kq x) K
 | _,_,_=>False
def lb (P:Program)(op:BinOp)(t:TypeId)(x y:Value)(K:Value->Prop):Prop:=
 match x,y with
 | .int k a,.int k' b=>if k=k' then oW op k a b K else(match op with | .shl=>oW .shl k a b K | .shr=>oW .shr k a b K|_=>False)
 | .bool a,.bool b=>match P.underlying t with
  | some .bool=>mQ op (a==b) K
  | _=>False
 | .string a,.string b=>match op with
  | .eql=>K (.bool (a.toList==b.toList))
  | .neq=>K (.bool (!(a.toList==b.toList)))
  | _=>False
 | _,_=>False
def nU (P:Program)(xs ys:List Value):List Field->Option Bool
 | []=>some true
 | f::fs=>bif f.name == "_" then none else
  match P.underlying f.type,xs[f.offset]?,ys[f.offset]?,nU P xs ys fs with
  | some (.int _),some (.int k a),some (.int k' b),some r=>if k=k' then some ((a==b)&&r)else none
  | some .bool,some (.bool a),some (.bool b),some r=>some ((a==b)&&r)
  | _,_,_,_=>none
def nV (P:Program)(e:TypeId)(xs ys:List Value):List Nat->Option Bool
 | []=>some true
 | i::is=>match P.underlying e,xs[i]?,ys[i]?,nV P e xs ys is with
  | some (.int _),some (.int k a),some (.int k' b),some r=>if k=k' then some ((a==b)&&r)else none
  | some (.pointer _),some (.pointer p),some (.pointer none),some r=>some (p.isNone&&r)
  | _,_,_,_=>none
def m8 (P:Program)(op:BinOp)(t:TypeId)(xs ys:List Value)(K:Value->Prop):Prop:=
 match P.underlying t with
 | some (.struct fs)=>fQ (!P.stoodInHeld t && !P.eqGuardType P.depth t) (match nU P xs ys fs.toList with
  | some b=>mQ op b K
  | none=>False)
 | some (.array n e)=>fQ (!P.eqGuardType P.depth t&&((P.info? e).isSome&&P.cellsOf e==1)) (match nV P e xs ys (List.range n)with
  | some b=>mQ op b K
  | none=>False)
 | _=>False
def uV:Operand->Bool
 | .const (.pointer none)=>true
 | .const (.slice none 0 0)=>true
 | .const (.map none)=>true
 | .const .nilIface=>true
 | _=>false
def vU (P:Program)(op:BinOp)(t:TypeId)(y:Operand)(vx vy:Value)(K:Value->Prop):Prop:=
 bif uV y then ly P op t vx vy K else match vx,vy with
 | .agg xs,.agg ys=>m8 P op t xs.toList ys.toList K
 | vx,vy=>lb P op t vx vy K
def ng (P:Program)(s f:Nat)(K:Field->Prop):Prop:=
 match P.underlying s with
 | some (.struct fs)=>match fs[f]? with
  | some fd=>K fd
  | none=>False
 | _=>False
def lr (P:Program)(t:TypeId)(x:Value)(h:Hp)(K:Value->Prop):Prop:=
 match P.underlying t,x with
 | some (.slice _),.slice _ n _=>K (.int .i64 (n:Int))
 | some .string,.string s=>K (.int .i64 (s.size:Int))
 | some (.array n _),_=>K (.int .i64 (n:Int))
 | some (.map kt et),.map m=>match P.underlying kt,od P et with
  | some (.int k),some (.one c)=>qE k c m h λz=>K (.int .i64 z)
  | _,_=>False
 | _,_=>False
def yo (P:Program)(t:TypeId)(x i:Value)(ok:Bool)(h:Hp)(K:Value->Prop):Prop:=
 match P.underlying t,x,i with
 | some (.map kt et),.map m,.int k n=>match P.underlying kt,od P et,P.info? et with
  | some (.int k'),some (.one c),some ti=>match ti.zero with
   | some z=>if k=k' then mO c z λz=>Lk k c m n h λo=>K (bif ok then .tuple #[c.v (o.getD z),.bool o.isSome]else c.v (o.getD z))else False
   | none=>False
  | _,_,_=>False
 | _,_,_=>False
def nW (isMax:Bool):Value->List Value->(Value->Prop)->Prop
 | v,[],K=>K v
 | .int k x,.int _ y::vs,K=>nW isMax (.int k (bif isMax then(if y>x then y else x)else(if y<x then y else x))) vs K
 | _,_,_=>False
def qM (Zd:Nat->Option (Nat×Nat))(cells:List Value):List (Nat×Value)->Option (List Value)
 | []=>some cells
 | (i,v)::rest=>
  match Zd i with
  | none=>none
  | some (off,size)=>
   if v.cells.size≠size\/off+v.cells.size>cells.length then none
   else qM Zd (cells.take off++v.cells.toList++cells.drop (off+size)) rest
def Hc (ρ:Env):List (Nat×Operand)->Option (List (Nat×Value))
 | []=>some []
 | (i,o)::os=>match ev ρ o,Hc ρ os with|some v,some vs=>some ((i,v)::vs)|_,_=>none
def yz (P:Program)(fs:Array Field)(i:Nat):Option (Nat×Nat):=match fs[i]? with
 | some f=>match P.info? f.type with
  | some ti=>some (f.offset,ti.size)
  | none=>none
 | none=>none
def vB (P:Program)(t:TypeId):Bool:=match P.underlying t with
 | some (.interface _)=>true
 | _=>false
def wF (P:Program)(fs:Array Field)(i:Nat):Bool:=match fs[i]? with
 | some f=>vB P f.type
 | none=>false
def wa (raw:Nat->Bool):List (Nat×Value)->List (Nat×Value)
 | []=>[]
 | (i,v)::ps=>(i,bif raw i then .agg #[v]else v)::wa raw ps
def ld (raw:Nat->Bool):List (Nat×Value)->Prop->Prop
 | [],A=>A
 | (i,v)::ps,A=>bif raw i then iR v/\ld raw ps A else ld raw ps A
def mT (P:Program)(t:TypeId)(ps:List (Nat×Value))(K:Value->Prop):Prop:=
 match P.info? t,P.underlying t with
 | some ti,some (.struct fs)=>match ti.zero with
  | some z=>ld (wF P fs) ps (match qM (yz P fs) z.cells.toList (wa (wF P fs) ps)with
   | some cs=>fQ (fs.toList.all λf=>(P.info? f.type).isSome) (K (.agg cs.toArray))
   | none=>False)
  | none=>False
 | some ti,some (.array _ e)=>match ti.zero,P.info? e with
  | some z,some te=>match qM (λi=>some (i*te.size,te.size)) z.cells.toList ps with
   | some cs=>K (.agg cs.toArray)
   | none=>False
  | _,_=>False
 | _,_=>False
def uf (P:Program)(t:TypeId)(cs:List Value)(off:Nat)(K:Value->Prop):Prop:=
 match P.underlying t,P.info? t with
 | some d,some ti=>bif V7 d then K (.agg ((cs.drop off).take ti.size).toArray)else wv (cs[off]?) K
 | _,_=>False
def mW (P:Program)(t:TypeId)(x:Value)(lo hi mx:Option Value)(K:Value->Prop):Prop:=
 match P.underlying t,x with
 | some (.slice e),.slice a n c=>match P.info? e with
  | some ti=>
   let loV:Option Int:=match lo with|none=>some 0|some (.int .i64 z)=>some z|_=>none
   let hiV:Option Int:=match hi with|none=>some n|some (.int .i64 z)=>some z|_=>none
   let mxV:Option Int:=match mx,hi with|none,_=>some c|some (.int .i64 z),some _=>some z|_,_=>none
   match loV,hiV,mxV with
   | some l,some h,some m=>eY ⟨a,n,c⟩ ti.size l h m λs=>K (.slice s.a s.len s.cap)
   | _,_,_=>False
  | none=>False
 | _,_=>False
def tO (ρ:Env):Option Operand->Option (Option Value)
 | none=>some none
 | some o=>(ev ρ o).map some
def qK (P:Program)(o:Op)(ρ:Env)(h:Hp)(K:Value->Prop):Prop:=
 match o with
 | .move x=>wv (ev ρ x) K
 | .assign x=>wv (ev ρ x) K
 | .pick c x y=>wv (ev ρ c) λv=>match v with
  | .bool true=>wv (ev ρ x) K
  | .bool false=>wv (ev ρ y) K
  | _=>False
 | .load t a=>wv (ev ρ a) λv=>match v,jM P t with
  | .pointer (some a),some (.one c)=>fQ (P.info? t).isSome (xK c a h λx=>K (c.v x))
  | .pointer (some a),some (.agg cs)=>fQ (P.cellsOf t==cs.length) (fQ (P.info? t).isSome (nc cs a 0 h λvs=>K (.agg vs.toArray)))
  | _,_=>False
 | .nilCheck x=>wv (ev ρ x) λv=>match v with
  | .pointer p=>bU p λa=>K (.pointer (some a))
  | .func (.func f) a b=>K (.func (.func f) a b)
  | _=>False
 | .binOp op t x y _=>wv (ev ρ x) λvx=>wv (ev ρ y) λvy=>vU P op t y vx vy K
 | .unOp op _ x=>wv (ev ρ x) λv=>match op,v with
  | .not,.bool b=>K (.bool (!b))
  | .neg,.int k n=>Ar k (0-n) λz=>K (.int k z)
  | _,_=>False
 | .convert s d x=>wv (ev ρ x) λv=>match P.underlying s,P.underlying d,v with
  | some _,some (.int k),.int _ n=>Ar k n λz=>K (.int k z)
  | some _,some .string,.string x=>K (.string x)
  | some (.slice e),some .string,.slice a n c=>(match P.underlying e with|some (.int .u8)=>EP ⟨a,n,c⟩ h λs=>K (.string s)|_=>False)
  | _,_,_=>False
 | .fieldAddr s x f=>wv (ev ρ x) λv=>ng P s f λfd=>match v with
  | .pointer (some a)=>fQ (P.cellsOf fd.type != 0) (K (.pointer (some (a.add fd.offset))))
  | _=>False
 | .field s x f=>wv (ev ρ x) λv=>ng P s f λfd=>match v with
  | .agg cs=>uf P fd.type cs.toList fd.offset K
  | _=>False
 | .indexAddr t x i=>wv (ev ρ x) λvx=>wv (ev ρ i) λvi=>match P.underlying t,vx,vi with
  | some (.slice e),.slice b n _,.int _ i=>fQ (P.info? e).isSome (Ix b n i (P.cellsOf e) λa=>K (.pointer (some a)))
  | some (.array n e),.pointer (some a),.int _ i=>fQ (P.info? e).isSome (nL a n i (P.cellsOf e) λa=>K (.pointer (some a)))
  | _,_,_=>False
 | .index t x i=>wv (ev ρ x) λvx=>wv (ev ρ i) λvi=>match P.underlying t,vx,vi with
  | some .string,.string s,.int _ i=>IV s i λz=>K (.int .u8 z)
  | _,_,_=>False
 | .lookup t x i ok=>wv (ev ρ x) λvx=>wv (ev ρ i) λvi=>yo P t vx vi ok h K
 | .extract t i=>wv (ev ρ t) λv=>match v with
  | .tuple vs=>wv (vs.toList[i]?) K
  | _=>False
 | .makeFunc fn a b=>match pa ρ a.toList,pa ρ b.toList with
  | some va,some vb=>K (.func fn va.toArray vb.toArray)
  | _,_=>False
 | .build t ps=>match Hc ρ ps.toList with
  | some vs=>mT P t vs K
  | none=>False
 | .slice t x lo hi mx=>wv (ev ρ x) λv=>match tO ρ lo,tO ρ hi,tO ρ mx with
  | some lo,some hi,some mx=>mW P t v lo hi mx K
  | _,_,_=>False
 | .makeInterface t x=>wv (ev ρ x) λv=>fQ (P.concrete t) (K (.iface t v))
 | .typeAssert x _ t true=>wv (ev ρ x) λv=>match P.underlying t,P.info? t,jM P t with
  | some (.struct _),some ti,some (.agg cs)=>match ti.zero with
   | some (.agg zs)=>ve v t zs.toList cs [] λvs b=>K (.tuple #[.agg vs.toArray,.bool b])
   | _=>False
  | _,_,_=>False
 | .call c=>match c.callee,pa ρ c.args.toList,c.argTypes.toList with
  | .builtin .len,some [x],[t]=>lr P t x h K
  | .builtin .cap,some [.slice _ _ n],[t]=>(match P.underlying t with|some (.slice _)=>K (.int .i64 (n:Int))|_=>False)
  | .builtin .max,some (x::xs),_=>nW true x xs K
  | .builtin .min,some (x::xs),_=>nW false x xs K
  | _,_,_=>False
 | _=>False
def sB:Op->Bool
 | .move _ | .assign _ | .pick .. | .load _ _ | .nilCheck _ | .binOp .. | .unOp .. | .convert .. | .fieldAddr .. | .field .. | .indexAddr .. | .index .. | .lookup .. | .extract .. | .makeFunc .. | .build .. | .slice .. | .makeInterface .. => true
 | .typeAssert _ _ _ ok=>ok
 | .call c=>match c.callee with | .builtin .len | .builtin .cap | .builtin .max | .builtin .min=>true|_=>false
 | _=>false
theorem VC {P:Program}{t:Nat}{i:TypeInfo}(hi:P.info? t=some i)(w:World):(typeInfo t).run P w=.ok i w:=by
 simp[typeInfo,hi]
theorem QA {P:Program}{t:Nat}(h:(P.info? t).isSome=true)(w:World):(sizeOf t).run P w=.ok (P.cellsOf t) w:=by
 obtain⟨i,a⟩:=pj.1 h;simp[sizeOf,typeInfo,a,Program.cellsOf]
theorem Vb {P:Program}{t:Nat}{i:TypeInfo}{z:Value}(hi:P.info? t=some i)(hz:i.zero=some z)(w:World):(zeroValue t).run P w=.ok z w:=by
 simp[zeroValue,typeInfo,hi,hz]
theorem Rm {P:Program}{op:BinOp}{t:Nat}{k:IntKind}{x y:Int}{K:Value->Prop}(h:oW op k x y K)(w:World) :
 ∃v,(binOp op t (.int k x) (.int k y)).run P w=.ok v w/\K v:=by
 cases op<;>simp only[oW,Ar,Nz,Nn]at h
 all_goals first
  | (refine⟨_,?_,h⟩;simp[binOp,Op.intArith,Op.intCmp,Op.intBits,bits];done)
  | (obtain⟨a,b⟩:=h;refine⟨_,?_,b⟩;simp[binOp,Op.intDiv,a];done)
  | (obtain⟨a,b⟩:=h;refine⟨_,?_,b⟩;simp[binOp,Op.shift,Int.not_lt.2 a];done)
theorem VZ {P:Program}{op:BinOp}{t:Nat}{x y:Value}{b:Bool}{K:Value->Prop}(h:mQ op b K)(w:World)
 (hb:∀op,(op=.eql\/op=.neq)->binOp op t x y=if op=.eql then(do pure (.bool (←Op.equal t x y)))else(do pure (.bool (!(←Op.equal t x y)))))
 (he:(Op.equal t x y).run P w=.ok b w):∃v,(binOp op t x y).run P w=.ok v w/\K v:=by
 cases op<;>simp only[mQ]at h
 case eql=>exact⟨_,by rw[hb .eql (.inl rfl)];simp[he],h⟩
 case neq=>exact⟨_,by rw[hb .neq (.inr rfl)];simp[he],h⟩
theorem DB {P:Program}{t e:Nat}(hu:P.underlying t=some (.pointer e))(p:Option Addr)(d:Nat)(w:World):(Op.equalIn (d+1) t (.pointer p) (.pointer none)).run P w=.ok p.isNone w:=by
 cases p<;>simp[Op.equalIn,run_underlying hu]
theorem Mp {P:Program}{t e:Nat}(hu:P.underlying t=some (.slice e))(p:Option Addr)(n c d:Nat)(w:World):(Op.equalIn (d+1) t (.slice p n c) (.slice none 0 0)).run P w=.ok p.isNone w:=by
 cases p<;>simp[Op.equalIn,run_underlying hu]
theorem Rv {P:Program}{t k e:Nat}(hu:P.underlying t=some (.map k e))(p:Option Nat)(d:Nat)(w:World):(Op.equalIn (d+1) t (.map p) (.map none)).run P w=.ok p.isNone w:=by
 cases p<;>simp[Op.equalIn,run_underlying hu]
theorem PQ {P:Program}{t:Nat}(hu:P.underlying t=some .bool)(a b:Bool)(d:Nat)(w:World):(Op.equalIn (d+1) t (.bool a) (.bool b)).run P w=.ok (a==b) w:=by
 simp[Op.equalIn,run_underlying hu]
theorem L6 {P:Program}{w:World}{s:Sl}{K:ByteArray->Prop}(h:EP s w.heap K):∃b,(Conv.bytesToString (.slice s.a s.len s.cap)).run P w=.ok (.string b) w/\K b:=by
 obtain⟨g,i,d,p⟩:=h;refine⟨_,?_,p⟩;cases hs:s.a with
 | none=>
  rw[hs]at d;simp only[Rd,wQ]at d;subst d;simp[Conv.bytesToString];rfl
 | some a=>
  rw[hs]at d;have e:(loadCells a s.len).run P w=.ok (g.map (Value.int .u8)).toArray w:=by
   rw[←i];simpa using run_loadCells_list (P:=P) (w:=w) a (g.map (Value.int .u8)) (λj v m=>d j v m)
  have key:∀(l:List Int) (acc:ByteArray),List.foldl (λb a=>b.push (UInt8.ofNat a.toNat)) acc l=⟨acc.data++(l.map λn=>UInt8.ofNat n.toNat).toArray⟩:=by
   intro l
   induction l with
   | nil=>intro acc;simp
   | cons n l ih=>intro acc;rw[qs,ih];congr 1;apply Array.ext';simp[ByteArray.push]
  simp only[Conv.bytesToString,Sem.run_bind,e,Result.andThen_ok];simp[key]
theorem NP {P:Program}{t:Nat}{ms:Array (String×TypeId)}(hu:P.underlying t=some (.interface ms)){v:Value}(hv:iR v)(d:Nat)(w:World):(Op.equalIn (d+1) t v .nilIface).run P w=.ok (kq v) w:=by
 rcases hv with rfl|⟨t',u,rfl⟩
 ·simp[Op.equalIn,run_underlying hu,kq]
 ·simp[Op.equalIn,run_underlying hu,kq]
theorem Oh {P:Program}{xt t:TypeId}{ti:TypeInfo}{fs:Array Field}{v:Value}{vs zs:List Value}{b:Bool}(hu:P.underlying t=some (.struct fs))(hi:P.info? t=some ti)(hz:ti.zero=some (.agg zs.toArray))
 (h:j5 v t vs zs b) (w:World) :
 (Instr.typeAssert v xt t true).run P w=.ok (.tuple #[.agg vs.toArray,.bool b]) w:=by
 have a:=Vb hi hz w;cases b with
 | true=>
  simp only[j5]at h;subst h;simp[Instr.typeAssert,run_underlying hu]
 | false=>
  simp only[j5]at h;obtain⟨rfl,h⟩:=h;rcases h with rfl|⟨t',u,rfl,hne⟩
  ·simp[Instr.typeAssert,run_underlying hu,a]
  ·simp[Instr.typeAssert,run_underlying hu,hne,a]
theorem O3 {P:Program}{op:BinOp}{t:Nat}{x y:Value}{K:Value->Prop}(h:ly P op t x y K)(w:World) :
 ∃v,(binOp op t x y).run P w=.ok v w/\K v:=by
 unfold ly at h;split at h
 case h_1 e p hu=>
  refine VZ h w ?_ ?_
  ·rintro op (rfl|rfl)<;>simp[binOp]
  ·exact DB hu p 9999 w
 case h_2 e p _ _ hu=>
  refine VZ h w ?_ ?_
  ·rintro op (rfl|rfl)<;>simp[binOp]
  ·exact Mp hu p _ _ 9999 w
 case h_3 e e' p hu=>
  refine VZ h w ?_ ?_
  ·rintro op (rfl|rfl)<;>simp[binOp]
  ·exact Rv hu p 9999 w
 case h_4 ms hu=>
  obtain⟨a,h⟩:=h;refine VZ h w ?_ ?_
  ·rcases a with rfl|⟨t',u,rfl⟩<;>rintro op (rfl|rfl)<;>simp[binOp]
  ·exact NP hu a 9999 w
 ·exact h.elim
theorem OG {P:Program}{op:BinOp}{t:Nat}{x y:Value}{K:Value->Prop}(h:lb P op t x y K)(w:World) :
 ∃v,(binOp op t x y).run P w=.ok v w/\K v:=by
 unfold lb at h;split at h
 case h_1 k a k' b=>
  split at h
  ·rename_i e;subst e;exact Rm h w
  ·cases op<;>simp only at h
   case shl=>simp only[oW,Ar,Nn]at h;obtain⟨d,g⟩:=h;exact⟨_,by simp[binOp,Op.shift,Int.not_lt.2 d],g⟩
   case shr=>simp only[oW,Ar,Nn]at h;obtain⟨d,g⟩:=h;exact⟨_,by simp[binOp,Op.shift,Int.not_lt.2 d],g⟩
 case h_2 a b=>
  split at h
  ·rename_i hu;refine VZ h w ?_ ?_
   ·rintro op (rfl|rfl)<;>simp[binOp]
   ·exact PQ hu a b 9999 w
  ·exact h.elim
 case h_3 a b=>
  cases op<;>simp only at h
  ·exact⟨_,rfl,h⟩
  ·exact⟨_,rfl,h⟩
 ·exact h.elim
theorem Bn {c:CK}{a:Addr}{h:Hp}{K:c.T->Prop}(hl:xK c a h K):∃x,cell h a=some (c.v x)/\K x:=by
 cases c<;>exact hl
theorem AX {P:Program}{w:World}{a:Addr}{v:Value}(h:cell w.heap a=some v):(load a).run P w=.ok v w:=by
 have:w.cell? a=some v:=h;simp[this]
theorem G5 {P:Program}{w:World}:∀{cs:List CK} {a:Addr} {i:Nat} {K:List Value->Prop},nc cs a i w.heap K →
 ∃vs,vs.length=cs.length/\K vs/\∀acc,(loadCellsFrom a i cs.length acc).run P w=.ok (acc++vs.toArray) w
 | [],a,i,K,h=>⟨[],rfl,h,λacc=>by simp[loadCellsFrom]⟩
 | c::cs,a,i,K,h=>by
  obtain⟨x,hx,hK⟩:=Bn h;obtain⟨vs,d,b,e⟩:=G5 (P:=P) hK;refine⟨c.v x::vs,by simp[d],b,λacc=>?_⟩;simp only[zY,loadCellsFrom,Sem.run_bind,AX hx,Result.andThen_ok,e]
  congr 1
  apply Array.ext';simp
theorem KB {P:Program}{t:Nat}{d:TypeDesc}(h:P.underlying t=some d)(w:World):(isAgg t).run P w=.ok (V7 d) w:=by
 simp only[isAgg,Sem.run_bind,run_underlying h,Result.andThen_ok];cases d<;>rfl
theorem DP {P:Program}{t:Nat}{c:CK}(h:jM P t=some (.one c)):∃d,P.underlying t=some d/\V7 d=false:=by
 unfold jM at h;split at h
 ·rename_i d hd;refine⟨d,hd,?_⟩;cases e:V7 d
  ·rfl
  ·rw[e]at h;simp at h
 ·cases h
theorem Ff {P:Program}{t:Nat}{c:List CK}(h:jM P t=some (.agg c)):∃d,P.underlying t=some d/\V7 d=true:=by
 unfold jM at h;split at h
 ·rename_i d hd;refine⟨d,hd,?_⟩;cases e:V7 d
  ·rw[e]at h;simp at h
  ·rfl
 ·cases h
theorem F8 {P:Program}{t ty:Nat}{x:Value}{K:Value->Prop}{w:World}(h:lr P t x w.heap K) :
 ∃v,(Builtin.len_ #[t] ty #[x]).run P w=.ok v w/\K v:=by
 unfold lr at h;split at h
 case h_1 e a n c hu=>exact⟨_,by simp[Builtin.len_,run_underlying hu,goInt],h⟩
 case h_2 s hu=>exact⟨_,by simp[Builtin.len_,run_underlying hu,goInt],h⟩
 case h_3 n e y hu=>exact⟨_,by simp[Builtin.len_,run_underlying hu,goInt],h⟩
 case h_4 kt et m hu=>
  split at h
  case h_1 k c hk hs=>
   obtain⟨l,d,g⟩:=h;cases m with
   | none=>simp only[jc]at d;subst d;exact⟨_,by simp[Builtin.len_,run_underlying hu,goInt],g⟩
   | some r=>
    obtain⟨i,j,p,u,_⟩:=d;have b:i.size=l.length:=by simpa using congrArg List.length u
    refine⟨_,?_,g⟩;simp[Builtin.len_,run_underlying hu,goInt,getObj,Sem.run,p,b]
  ·exact h.elim
 ·exact h.elim
theorem BC {P:Program}{w:World}:∀{vs:List Value} {v:Value} {b:Bool} {K:Value->Prop},nW b v vs K →
 ∃z,(vs.foldlM (if b then Builtin.max2 else Builtin.min2) v).run P w=.ok z w/\K z
 | [],v,b,K,h=>⟨v,by simp,by simpa[nW]using h⟩
 | u::vs,v,b,K,h=>by
  cases v<;>cases u<;>simp only[nW]at h<;>try exact h.elim
  case int.int k x k' y=>
   obtain⟨z,hz,hK⟩:=BC h;refine⟨z,?_,hK⟩;cases b
   ·simpa[Builtin.min2]using hz
   ·simpa[Builtin.max2]using hz
theorem ZE {ρ:Env}{a:Act}(hf:∀x v,ev ρ x=some v->a.eval x=v):∀{os:List Operand} {vs:List Value},pa ρ os=some vs->os.map a.eval=vs
 | [],vs,h=>by simp[pa]at h;simp[h]
 | o::os,vs,h=>by
  simp only[pa]at h;split at h
  ·rename_i v vs' h1 h2;cases h;simp[hf _ _ h1,ZE hf h2]
  ·cases h
theorem VN {ρ:Env}{a:Act}(hf:∀x v,ev ρ x=some v->a.eval x=v):∀{os:List (Nat×Operand)} {vs:List (Nat×Value)},Hc ρ os=some vs->os.map (λ(i,x)=>(i,a.eval x))=vs
 | [],vs,h=>by simp[Hc]at h;simp[h]
 | (i,o)::os,vs,h=>by
  simp only[Hc]at h;split at h
  ·rename_i v vs' h1 h2;cases h;simp[hf _ _ h1,VN hf h2]
  ·cases h
theorem HM {k:IntKind}{n:Int}{c:CK}:∀(es:List MapEntry) (l:List (Int×c.T)) (i:Nat),
 es.map (λe=>(e.key,e.val))=l.map (λx=>(Value.int k x.1,c.v x.2)) →
 Instr.findNow (.int k) (.int k n) es i=some (match l.findIdx? (λx=>x.1==n)with|some j=>some (i+j,match l[j]? with|some x=>c.v x.2|none=>undef)|none=>none)
 | [],l,i,h=>by
  cases l with
  | nil=>simp[Instr.findNow]
  | cons x l=>simp at h
 | e::es,[],i,h=>by simp at h
 | e::es,x::l,i,h=>by
  simp only[zT,List.cons.injEq,Prod.mk.injEq]at h;obtain⟨⟨h1,h2⟩,h3⟩:=h;have a:=HM (n:=n) es l (i+1) h3;simp only[Instr.findNow,h1,Instr.sameNow,zR];by_cases hx:n=x.1
  ·have e1:(n==x.1)=true:=by simpa using hx
   have e2:(x.1==n)=true:=by simpa using hx.symm
   simp[uU,e1,e2,h2]
  ·have e1:(n==x.1)=false:=by simpa using hx
   have e2:(x.1==n)=false:=by simpa using λh=>hx h.symm
   simp only[e1,a,uU,e2];cases List.findIdx? (λx=>x.1==n) l with
   | none=>simp
   | some j=>simp;omega
theorem Kg {P:Program}{kt:Nat}{k:IntKind}(hk:P.underlying kt=some (.int k)){n:Int}{c:CK}{es:List MapEntry}{l:List (Int×c.T)}
 (he:es.map (λe=>(e.key,e.val))=l.map (λx=>(Value.int k x.1,c.v x.2))) (w:World) :
 (Instr.findKey kt (.int k n) es).run P w=.ok (match l.findIdx? (λx=>x.1==n)with|some j=>some (j,match l[j]? with|some x=>c.v x.2|none=>undef)|none=>none) w:=by
 simp[Instr.findKey,run_underlying hk,HM es l 0 he]
theorem J5 {P:Program}{kt:Nat}{k:IntKind}(hk:P.underlying kt=some (.int k))(b:Bool)(n:Int)(d:Nat)(w:World) :
 (Instr.checkKey b (d+1) kt (.int k n)).run P w=.ok () w:=by
 simp[Instr.checkKey,run_underlying hk]
theorem Qw {P:Program}{kt:Nat}{k:IntKind}(hk:P.underlying kt=some (.int k))(b:Bool)(n:Int)(w:World) :
 (Instr.checkKey b 10000 kt (.int k n)).run P w=.ok () w:=J5 hk b n 9999 w
theorem OY {α:Type}(l:List (Int×α))(n:Int):bW l n=(l.findIdx? (λx=>x.1==n)).bind λj=>(l[j]?).map (·.2):=by
 induction l with
 | nil=>rfl
 | cons x l ih=>
  simp only[bW,uE,uU]at *;cases h:x.1==n
  ·simp only[ih];cases List.findIdx? (λx=>x.1==n) l<;>simp
  ·simp
theorem VS {α:Type}{l:List (Int×α)}{n:Int}{j:Nat}(h:l.findIdx? (λx=>x.1==n)=some j):∃x,l[j]?=some x/\x.1=n:=by
 rw[m5]at h;obtain⟨b,a,_⟩:=h;exact⟨l[j],by simp[b],by simpa using a⟩
theorem JB {P:Program}{t:Nat}{x i:Value}{ok:Bool}{K:Value->Prop}{w:World}(h:yo P t x i ok w.heap K) :
 ∃v,(Instr.lookup t x i ok).run P w=.ok v w/\K v:=by
 unfold yo at h;split at h
 case h_2=>exact h.elim
 rename_i kt et m k n hu;split at h
 case h_2=>exact h.elim
 rename_i k' c ti hk hs hi;split at h
 case h_2=>exact h.elim
 rename_i z hz;split at h
 case isFalse=>exact h.elim
 rename_i e;subst e;obtain⟨B,a,l,b,u⟩:=Vp h;refine⟨_,?_,u⟩;cases m with
 | none=>
  simp only[jc]at b;subst b;simp only[Instr.lookup,Sem.run_bind,run_underlying hu,Result.andThen_ok,Sem.run_pure,Qw hk,Kg (c:=c) (l:=[]) hk (rfl:List.map _ (#[]:Array MapEntry).toList=_),List.findIdx?_nil,Vb hi hz];cases ok<;>simp[bW,a]
 | some r=>
  obtain⟨A,g,p,s,_⟩:=b;simp only[Instr.lookup,Sem.run_bind,run_underlying hu,Result.andThen_ok,Sem.run_pure,Qw hk,getObj,Sem.run,p,Kg hk s,OY];cases hf:l.findIdx? (λx=>x.1==n)with
  | none=>cases ok<;>simp[Vb hi hz,a]
  | some j=>
   obtain⟨y,d,_⟩:=VS hf;cases ok<;>simp[d]
theorem CI (off:Nat):∀(vs:List Value) (k:Nat) (cs:Array Value),off+k+vs.length<=cs.size →
 ((vs.zipIdx k).foldl (λcs (c,j)=>cs.setIfInBounds (off+j) c) cs).toList=cs.toList.take (off+k)++vs++cs.toList.drop (off+k+vs.length)
 | [],k,cs,h=>by simp
 | v::vs,k,cs,h=>by
  simp only[List.zipIdx_cons,qs];rw[CI off vs (k+1) _ (by simp only[Array.size_setIfInBounds,zY]at *;omega)];simp only[zY]at h;have hlt:off+k<cs.toList.length:=by simp;omega
  simp only[Array.toList_setIfInBounds,zY];apply zo;intro m;simp only[List.getElem?_append,zZ,nK,zP,zj,mA,kL,List.getElem?_cons,zY]
  grind
theorem Up (Zd:Nat->Option (Nat×Nat)):∀(ps:List (Nat×Value)) (cells:List Value) (cs:List Value),qM Zd cells ps=some cs->Instr.fill Zd cells.toArray ps=some cs.toArray
 | [],cells,cs,h=>by simp[qM]at h;simp[Instr.fill,h]
 | (i,v)::rest,cells,cs,h=>by
  simp only[qM]at h;simp only[Instr.fill];cases hp:Zd i with
  | none=>rw[hp]at h;cases h
  | some os=>
   obtain⟨off,size⟩:=os;rw[hp]at h;simp only at h ⊢;split at h
   ·cases h
   ·rename_i hc;simp only[not_or,Decidable.not_not,Nat.not_lt]at hc;obtain⟨a,b⟩:=hc;rw[zB (by simp[a];omega)];have:=CI off v.cells.toList 0 cells.toArray aE;have e:(v.cells.zipIdx.foldl (λcs (c,j)=>cs.setIfInBounds (off+j) c) cells.toArray)=(cells.take off++v.cells.toList++cells.drop (off+size)).toArray:=by
     apply Array.ext';rw[←Array.foldl_toList,Array.toList_zipIdx,this];simp[a]
    rw[e];exact Up Zd rest _ _ h
theorem GF {P:Program}{w:World}:∀(fs:List Field),(fs.all λf=>(P.info? f.type).isSome)=true →
 (fs.mapM λf=>(do pure (f.offset,←sizeOf f.type):Sem (Nat×Nat))).run P w=.ok (fs.map λf=>(f.offset,P.cellsOf f.type)) w
 | [],_=>by simp
 | f::fs,h=>by
  simp only[uu,zF]at h;have ih:=GF (P:=P) (w:=w) fs h.2;simp only[List.mapM_cons,Sem.run_bind,QA h.1,Result.andThen_ok,Sem.run_pure,ih,zT]
theorem Af {raw:Nat->Bool}:∀{ps:List (Nat×Value)} {A:Prop},ld raw ps A->A/\∀Zd cells,Instr.fill Zd cells (wa raw ps)=Instr.fill Zd cells ps
 | [],A,h=>⟨h,λ_ _=>rfl⟩
 | (i,v)::ps,A,h=>by
  simp only[ld]at h;cases hr:raw i
  ·rw[hr]at h;obtain⟨hA,ih⟩:=Af h;exact⟨hA,λZd cells=>by simp only[wa,Instr.fill,ih,hr,cond_false]⟩
  ·rw[hr]at h;simp only[cond_true]at h;obtain⟨hA,ih⟩:=Af h.2;have e:(Value.agg #[v]).cells=v.cells:=by
    rcases h.1 with rfl|⟨t,u,rfl⟩<;>rfl
   exact⟨hA,λZd cells=>by simp only[wa,Instr.fill,ih,hr,cond_true,e]⟩
theorem NA {P:Program}{t:Nat}{ps:Array (Nat×Value)}{K:Value->Prop}{w:World}(h:mT P t ps.toList K) :
 ∃v,(Instr.build t ps).run P w=.ok v w/\K v:=by
 unfold mT at h;split at h
 case h_1 p fs hi hu=>
  split at h
  case h_2=>exact h.elim
  rename_i z hz;obtain⟨h,g⟩:=Af h;split at h
  case h_2=>exact h.elim
  rename_i cs hf;rw[Wu]at h;obtain⟨a,u⟩:=h;refine⟨_,?_,u⟩;have s:=GF (P:=P) (w:=w) fs.toList a;have m:(fs.mapM λf=>(do pure (f.offset,←sizeOf f.type):Sem (Nat×Nat))).run P w=.ok (fs.map λf=>(f.offset,P.cellsOf f.type)) w:=by
   rw[Array.mapM_eq_mapM_toList];simp only[Sem.run_map,s,Result.andThen_ok]
   congr 1
   apply Array.ext';simp
  have d:(λi=>(fs.map λf=>(f.offset,P.cellsOf f.type))[i]?)=yz P fs:=by
   funext i
   simp only[yz,Array.getElem?_map];cases hfi:fs[i]? with
   | none=>simp
   | some f=>
    have b:f∈fs.toList:=by
     have:=xV hfi;simpa using this
    have:=jW.1 a f b;obtain⟨p,j⟩:=pj.1 this;simp[j,Program.cellsOf]
  have:=Up _ _ _ _ hf;rw[g]at this;simp only[Instr.build,Sem.run_bind,Vb hi hz,Result.andThen_ok,run_underlying hu,m,d];have e:z.cells.toList.toArray=z.cells:=by simp
  rw[e]at this;simp[this]
 case h_2 p n e hi hu=>
  split at h
  case h_2=>exact h.elim
  rename_i z te hz hte;split at h
  case h_2=>exact h.elim
  rename_i cs hf;refine⟨_,?_,h⟩;have:=Up _ _ _ _ hf;have e1:z.cells.toList.toArray=z.cells:=by simp
  rw[e1]at this;have r:(sizeOf e).run P w=.ok te.size w:=by simp[sizeOf,VC hte]
  simp only[Instr.build,Sem.run_bind,Vb hi hz,Result.andThen_ok,run_underlying hu,r];simp[this]
 ·exact h.elim
theorem Wr {o:Option Value}{K:Value->Prop}(h:wv o K):∃v,o=some v/\K v:=by
 cases o with
 | none=>exact h.elim
 | some v=>exact⟨v,rfl,h⟩
theorem OE {P:Program}{t off:Nat}{cs:Array Value}{K:Value->Prop}{w:World}(h:uf P t cs.toList off K) :
 ∃v,(part t cs off).run P w=.ok v w/\K v:=by
 unfold uf at h;split at h
 case h_2=>exact h.elim
 rename_i d ti hu hi;cases hd:V7 d
 ·rw[hd]at h;obtain⟨v,b,a⟩:=Wr h;refine⟨v,?_,a⟩;have:cs[off]?=some v:=by simpa using b
  simp[part,KB hu,hd,this]
 ·rw[hd]at h;refine⟨_,?_,h⟩;simp only[part,Sem.run_bind,KB hu,hd,Result.andThen_ok,sizeOf,VC hi,zR,Sem.run_pure]
  congr 2
  apply Array.ext';simp
theorem Q9 {P:Program}{w:World}{z:Int}{y:Nat}{code:BoundsCode}(h0:0<=z)(h1:z<=y):(Instr.sliceBound (.int .i64 z) y code).run P w=.ok z.toNat w:=by
 simp[Instr.sliceBound,asIntOf,h0,h1]
theorem Ft {o:Option Value}{d l:Int}(h:(match o with|none=>some d|some (.int .i64 z)=>some z|_=>none)=some l):(o=none/\l=d)\/o=some (.int .i64 l):=by
 split at h
 ·simp at h;exact .inl ⟨rfl,h.symm⟩
 ·simp at h;subst h;exact .inr rfl
 ·cases h
theorem Lg {P:Program}{t:Nat}{x:Value}{lo hi mx:Option Value}{K:Value->Prop}{w:World}(h:mW P t x lo hi mx K) :
 ∃v,(Instr.sliceAt t x lo hi mx).run P w=.ok v w/\K v:=by
 unfold mW at h;split at h
 case h_2=>exact h.elim
 rename_i e a n c hu;split at h
 case h_2=>exact h.elim
 rename_i ti hi';simp only at h;split at h
 case h_2=>exact h.elim
 rename_i l hh m hlo hhi hmx;obtain⟨s,u,A,p,j⟩:=h;refine⟨_,?_,j⟩;simp only at p;have b:(sizeOf e).run P w=.ok ti.size w:=by simp[sizeOf,VC hi']
 have r:(Instr.sliceBounds true n c lo hi mx).run P w=.ok (l.toNat,hh.toNat,m.toNat) w:=by
  have i:(mx=none/\m=c)\/(mx=some (.int .i64 m)/\hi≠none):=by
   split at hmx
   ·simp at hmx;exact .inl ⟨rfl,hmx.symm⟩
   ·simp at hmx;subst hmx;exact .inr ⟨rfl,by simp⟩
   ·cases hmx
  have g:=Ft hlo;have d:=Ft hhi;clear hlo hhi hmx;rcases i with⟨rfl,rfl⟩|⟨rfl,hne⟩<;>rcases d with⟨rfl,rfl⟩|rfl
  case inr.inl=>exact absurd rfl hne
  all_goals rcases g with⟨rfl,rfl⟩|rfl
  ·simp[Instr.sliceBounds]
  ·have:=Q9 (P:=P) (w:=w) (z:=l) (y:=n) (code:=.sliceB) s O;simp[Instr.sliceBounds,this]
  ·have:=Q9 (P:=P) (w:=w) (z:=hh) (y:=c) (code:=.sliceAcap) O O;simp[Instr.sliceBounds,this]
  ·have:=Q9 (P:=P) (w:=w) (z:=hh) (y:=c) (code:=.sliceAcap) O O;have:=Q9 (P:=P) (w:=w) (z:=l) (y:=hh.toNat) (code:=.sliceB) O O;simp[Instr.sliceBounds, *]
  ·have:=Q9 (P:=P) (w:=w) (z:=m) (y:=c) (code:=.slice3Acap) O O;have:=Q9 (P:=P) (w:=w) (z:=hh) (y:=m.toNat) (code:=.slice3B) O O;simp[Instr.sliceBounds, *]
  ·have:=Q9 (P:=P) (w:=w) (z:=m) (y:=c) (code:=.slice3Acap) O O;have:=Q9 (P:=P) (w:=w) (z:=hh) (y:=m.toNat) (code:=.slice3B) O O;have:=Q9 (P:=P) (w:=w) (z:=l) (y:=hh.toNat) (code:=.slice3C) O O;simp[Instr.sliceBounds, *]
 simp only[Instr.sliceAt,Instr.slice,Sem.run_bind,run_underlying hu,Result.andThen_ok,r,b,Sem.run_pure]
theorem MU {P:Program}{op:BinOp}{t:Nat}{x y:Operand}{a b:Value}(w:World)(h:(∀cs,a≠.agg cs)/\a≠.nilIface):(eqGuard op t x y a b).run P w=.ok () w:=by
 unfold eqGuard;cases op<;>simp
 all_goals (cases a<;>first|rfl | (simp at h))
theorem LR {P:Program}{op:BinOp}{t:Nat}{x y:Value}{K:Value->Prop}(h:lb P op t x y K):(∀cs,x≠.agg cs)/\x≠.nilIface:=by
 unfold lb at h;split at h<;>first|exact absurd h id | (constructor<;>simp)
theorem Rp {P:Program}{op:BinOp}{t:Nat}{x y:Value}{K:Value->Prop}(h:ly P op t x y K):∀cs,x≠.agg cs:=by
 unfold ly at h;split at h
 case h_4=>rcases h.1 with rfl|⟨t',u,rfl⟩<;>simp
 all_goals first|exact absurd h id|simp
theorem R4 {P:Program}{op:BinOp}{t:Nat}{x:Operand}{c:Value}{a b:Value}(w:World)(h:∀cs,a≠.agg cs):(eqGuard op t x (.const c) a b).run P w=.ok () w:=by
 unfold eqGuard;cases op<;>simp
 all_goals (cases a<;>first|rfl|exact absurd rfl (h _) | (cases b<;>simp))
theorem Nu {y:Operand}(h:uV y=true):∃c,y=.const c:=by
 unfold uV at h;split at h<;>first|exact⟨_,rfl⟩|cases h
theorem Gf {P:Program}{s f:Nat}{K:Field->Prop}(h:ng P s f K):∃fs fd,P.underlying s=some (.struct fs)/\fs[f]?=some fd/\K fd:=by
 unfold ng at h;split at h
 ·split at h
  ·exact⟨_,_,by assumption,by assumption,h⟩
  ·exact h.elim
 ·exact h.elim
theorem Rc {P:Program}{t:Nat}(h:P.cellsOf t≠0):(P.info? t).isSome=true:=by
 unfold Program.cellsOf at h;cases hi:P.info? t with
 | none=>rw[hi]at h;simp at h
 | some i=>rfl
theorem AG {ρ:Env}{a:Act}(hf:∀x v,ev ρ x=some v->a.eval x=v){o:Option Operand}{v:Option Value}(h:tO ρ o=some v):o.map a.eval=v:=by
 cases o with
 | none=>simp[tO]at h;simp[h]
 | some o=>
  simp only[tO,ot]at h;obtain⟨u,b,rfl⟩:=h;simp[hf _ _ b]
theorem Vh {P:Program}{t:Nat}{d:TypeDesc}{cs:Array Value}{off:Nat}{v:Value}{w:World}(hd:P.underlying t=some d)(hag:V7 d=false)(h:cs.toList[off]?=some v):(part t cs off).run P w=.ok v w:=by
 have a:cs[off]?=some v:=by simpa using h
 simp[part,KB hd,hag,a]
theorem y5 {P:Program}{xs ys:Array Value}(d:Nat):∀(fs:List Field) (b:Bool),nU P xs.toList ys.toList fs=some b->∀w,(Op.eqFields (d+1) xs ys fs).run P w=.ok b w
 | [],b,h,w=>by simp[nU]at h;subst h;simp[Op.eqFields]
 | f::fs,b,h,w=>by
  simp only[nU]at h;cases hn:f.name == "_"
  ·rw[hn]at h;simp only[cond_false]at h;have hne:f.name ≠ "_" := by simpa using hn
   split at h
   ·rename_i k0 k a k' b' r hu hx hy hr;split at h
    case isFalse=>cases h
    rename_i e;subst e;simp only[Option.some.injEq]at h;subst h;have ih:=y5 (d:=d) fs r hr w;simp only[Op.eqFields,hne,ne_eq,not_false_eq_true,zR,Sem.run_bind,Vh hu rfl hx,Vh hu rfl hy,Result.andThen_ok,run_equalIn_int w d f.type k k0 a b' hu];cases hab:a==b'<;>simp[ih]
   ·rename_i a b' r hu hx hy hr;simp only[Option.some.injEq]at h;subst h;have ih:=y5 (d:=d) fs r hr w;simp only[Op.eqFields,hne,ne_eq,not_false_eq_true,zR,Sem.run_bind,Vh hu rfl hx,Vh hu rfl hy,Result.andThen_ok,run_equalIn_bool' w d f.type a b' hu];cases hab:a==b'<;>simp[ih]
   ·cases h
  ·rw[hn]at h;cases h
theorem yM {P:Program}{e:TypeId}(hC:P.cellsOf e=1){xs ys:Array Value}(d:Nat):∀(is:List Nat) (b:Bool),nV P e xs.toList ys.toList is=some b->∀w,(Op.eqItems (d+1) e (P.cellsOf e) xs ys is).run P w=.ok b w
 | [],b,h,w=>by simp[nV]at h;subst h;simp[Op.eqItems]
 | i::is,b,h,w=>by
  simp only[nV]at h;split at h
  ·rename_i k0 k a k' b' r hu hx hy hr;split at h
   case isFalse=>cases h
   rename_i e';subst e';simp only[Option.some.injEq]at h;subst h;have ih:=yM hC d is r hr w;simp only[Op.eqItems,hC,mX,Sem.run_bind,Vh hu rfl hx,Vh hu rfl hy,Result.andThen_ok,run_equalIn_int w d e k k0 a b' hu];rw[hC]at ih;cases hab:a==b'<;>simp[ih]
  ·rename_i t0 p r hu hx hy hr;simp only[Option.some.injEq]at h;subst h;have ih:=yM hC d is r hr w;simp only[Op.eqItems,hC,mX,Sem.run_bind,Vh hu rfl hx,Vh hu rfl hy,Result.andThen_ok,DB hu p d w];rw[hC]at ih;cases hab:p.isNone<;>simp[ih]
  ·cases h
theorem IE {P:Program}{op:BinOp}{t:Nat}{xs ys:Array Value}{K:Value->Prop}(h:m8 P op t xs.toList ys.toList K)(x y:Operand)(w:World) :
 ∃v,(do eqGuard op t x y (.agg xs) (.agg ys);binOp op t (.agg xs) (.agg ys):Sem Value).run P w=.ok v w/\K v:=by
 have fin:∀b:Bool,(Op.equalIn 10000 t (.agg xs) (.agg ys)).run P w=.ok b w->P.eqGuardType P.depth t=false->mQ op b K →
  ∃v,(do eqGuard op t x y (.agg xs) (.agg ys);binOp op t (.agg xs) (.agg ys):Sem Value).run P w=.ok v w/\K v:=by
  intro b a hgt h;have j:=run_eqGuard_agg (P:=P) w op t x y xs ys hgt;cases op<;>simp only[mQ]at h
  ·exact⟨_,by simp only[Sem.run_bind,j,Result.andThen_ok,run_eql_struct,a],h⟩
  ·exact⟨_,by simp only[Sem.run_bind,j,Result.andThen_ok,run_neq_struct,a],h⟩
 unfold m8 at h;split at h
 case h_1 fs hu=>
  rw[Wu]at h;obtain⟨d,h⟩:=h;simp only[zF,mj]at d;split at h
  case h_2=>exact h.elim
  rename_i b hb;have g:P.fieldsOf t=fs:=by simp[Program.fieldsOf,hu]
  have a:(Op.equalIn 10000 t (.agg xs) (.agg ys)).run P w=.ok b w:=by
   have:=run_equalIn_struct (P:=P) w 9999 t xs ys (by rw[g];exact hu) d.1;rw[g]at this;exact this.trans (y5 9998 fs.toList b hb w)
  exact fin b a d.2 h
 case h_2 n e hu=>
  rw[Wu]at h;obtain⟨d,h⟩:=h;simp only[zF,mj,zS]at d;split at h
  case h_2=>exact h.elim
  rename_i b hb;obtain⟨i,m⟩:=pj.1 d.2.1;exact fin b ((run_equalIn_array (P:=P) w 9999 xs ys hu m).trans (yM d.2.2 9998 _ b hb w)) d.1 h
 case h_3=>exact h.elim
theorem H7 {P:Program}{ρ:Env}{K:Value->Prop}{a:Act}{w:World}(hf:∀x v,ev ρ x=some v->a.eval x=v)(o:Oper)(hk:qK P o.op ρ w.heap K) :
 ∃v,(execOp a.eval o).run P w=.ok (.value v) w/\K v:=by
 obtain⟨dst,op,ty,pos,U,X⟩:=o;simp only at hk;have g:∀{s:Sem Value},(∃v,s.run P w=.ok v w/\K v)->∃v,(do pure (Next.value (←s)):Sem Next).run P w=.ok (.value v) w/\K v:=by
  rintro s ⟨v,j,e⟩;exact⟨v,by simp[j],e⟩
 unfold qK at hk;split at hk
 case h_1 x=>
  obtain⟨v,j,e⟩:=Wr hk;exact⟨v,by simp[execOp,hf _ _ j],e⟩
 case h_2 x=>
  obtain⟨v,j,e⟩:=Wr hk;exact⟨v,by simp[execOp,hf _ _ j],e⟩
 case h_3 c x y=>
  obtain⟨v,j,e⟩:=Wr hk;split at e
  ·obtain⟨u,A,e⟩:=Wr e;exact⟨u,by simp[execOp,hf _ _ j,asBool,hf _ _ A],e⟩
  ·obtain⟨u,A,e⟩:=Wr e;exact⟨u,by simp[execOp,hf _ _ j,asBool,hf _ _ A],e⟩
  ·exact e.elim
 case h_4 t x=>
  obtain⟨v,j,e⟩:=Wr hk;simp only[execOp,hf _ _ j];apply g;split at e
  case h_1 L c F=>
   rw[Wu]at e;obtain⟨d,hd,G⟩:=DP F;obtain⟨x,p,e⟩:=Bn e.2;exact⟨_,by simp only[Instr.loadAt,Instr.sureAddr,loadVar,Sem.run_bind,Sem.run_pure,Result.andThen_ok,KB hd,G];simpa using AX p,e⟩
  case h_2 L cs F=>
   rw[Wu,Wu]at e;obtain⟨r,z,e⟩:=e;obtain⟨d,hd,G⟩:=Ff F;obtain⟨vs,hl,e,V⟩:=G5 (P:=P) e;have Y:P.cellsOf t=cs.length:=by simpa using r
   refine⟨_,?_,e⟩;simp only[Instr.loadAt,Instr.sureAddr,loadVar,Sem.run_bind,Sem.run_pure,Result.andThen_ok,KB hd,G,zR,QA z,loadCells,Y,V];simp
  ·exact e.elim
 case h_5 x=>
  obtain⟨v,j,e⟩:=Wr hk;simp only[execOp,hf _ _ j];split at e
  ·obtain⟨L,rfl,e⟩:=e;exact⟨_,by simp,e⟩
  ·exact⟨_,by simp,e⟩
  ·exact e.elim
 case h_6 op t x y yt=>
  obtain⟨D,p,hk⟩:=Wr hk;obtain⟨vy,hy,hk⟩:=Wr hk;simp only[execOp,hf _ _ p,hf _ _ hy];apply g;unfold vU at hk;cases hn:uV y
  ·rw[hn]at hk;simp only[cond_false]at hk;split at hk
   ·exact IE hk x y w
   obtain⟨v,j,e⟩:=OG hk w;exact⟨v,by simp[MU w (LR hk),j],e⟩
  ·rw[hn]at hk;simp only[cond_true]at hk;obtain⟨v,j,e⟩:=O3 hk w;obtain⟨c,hc⟩:=Nu hn;have hg:=R4 (P:=P) (op:=op) (t:=t) (x:=x) (c:=c) (b:=vy) w (Rp hk);exact⟨v,by rw[hc];simp[hg,j],e⟩
 case h_7 op ty' x=>
  obtain⟨D,p,hk⟩:=Wr hk;simp only[execOp,hf _ _ p];apply g;split at hk
  ·exact⟨_,by simp[Op.unary],hk⟩
  ·exact⟨_,by simp[Op.unary,Op.intArith],hk⟩
  ·exact hk.elim
 case h_8 s d x=>
  obtain⟨D,p,hk⟩:=Wr hk;simp only[execOp,hf _ _ p];apply g;split at hk
  ·rename_i r z;exact⟨_,by simp[convert,run_underlying r,run_underlying z,Conv.intToInt],hk⟩
  ·rename_i r z;exact⟨_,by simp[convert,run_underlying r,run_underlying z],hk⟩
  ·rename_i r z;split at hk
   ·rename_i A;obtain⟨b,V,e⟩:=L6 (P:=P) hk;exact⟨_,by simpa[convert,run_underlying r,run_underlying z,run_underlying A]using V,e⟩
   ·exact hk.elim
  ·exact hk.elim
 case h_9 s x f=>
  obtain⟨D,p,hk⟩:=Wr hk;obtain⟨fs,Z,F,H,hk⟩:=Gf hk;simp only[execOp,hf _ _ p];apply g;split at hk
  ·rename_i L;rw[Wu]at hk;have M:P.cellsOf Z.type≠0:=by simpa using hk.1
   refine⟨_,?_,hk.2⟩;simp only[Instr.fieldAt,Sem.run_bind,run_underlying F,Result.andThen_ok,H,Instr.sureAddr,Sem.run_pure,fieldPlace,QA (Rc M),M,zy]
  ·exact hk.elim
 case h_10 s x f=>
  obtain⟨D,p,hk⟩:=Wr hk;obtain⟨fs,Z,F,H,hk⟩:=Gf hk;simp only[execOp,hf _ _ p];apply g;split at hk
  ·rename_i cs;obtain⟨v,j,e⟩:=OE (w:=w) hk;refine⟨v,?_,e⟩;simp only[Instr.field,Sem.run_bind,run_underlying F,Result.andThen_ok,H,asAgg,Sem.run_pure,j]
  ·exact hk.elim
 case h_11 t x i=>
  obtain⟨D,p,hk⟩:=Wr hk;obtain⟨vi,E,hk⟩:=Wr hk;simp only[execOp,hf _ _ p,hf _ _ E];apply g;split at hk
  ·have A:=(by assumption:P.underlying t=some _);rw[Wu]at hk;obtain⟨r,L,rfl,z,N,e⟩:=hk;refine⟨_,?_,e⟩;simp[Instr.indexAt,asIntOf,run_underlying A,QA r,z,N]
  ·have A:=(by assumption:P.underlying t=some _);rw[Wu]at hk;obtain⟨r,z,N,e⟩:=hk;refine⟨_,?_,e⟩;simp[Instr.indexAt,asIntOf,run_underlying A,QA r,z,N,Instr.sureAddr]
  ·exact hk.elim
 case h_12 t x i=>
  obtain⟨D,p,hk⟩:=Wr hk;obtain⟨vi,E,hk⟩:=Wr hk;simp only[execOp,hf _ _ p,hf _ _ E];apply g;split at hk
  ·have A:=(by assumption:P.underlying t=some _);obtain⟨b,r,z,e⟩:=hk;refine⟨_,?_,e⟩;simp[Instr.index,asIntOf,run_underlying A,r,z]
  ·exact hk.elim
 case h_13 t x i ok=>
  obtain⟨D,p,hk⟩:=Wr hk;obtain⟨vi,E,hk⟩:=Wr hk;simp only[execOp,hf _ _ p,hf _ _ E];exact g (JB hk)
 case h_14 t i=>
  obtain⟨D,p,hk⟩:=Wr hk;simp only[execOp,hf _ _ p];apply g;split at hk
  ·obtain⟨v,j,e⟩:=Wr hk;have R:=j;rw[uW]at R;exact⟨v,by simp[Instr.extract,R],e⟩
  ·exact hk.elim
 case h_15 fn x y=>
  split at hk
  ·rename_i va vb r z;have e1:=ZE hf r;have e2:=ZE hf z;refine⟨_,?_,hk⟩;have J:x.map a.eval=va.toArray:=by apply Array.ext';simpa using e1
   have W:y.map a.eval=vb.toArray:=by apply Array.ext';simpa using e2
   simp[execOp,Instr.makeFunc,J,W]
  ·exact hk.elim
 case h_16 t ps=>
  split at hk
  ·rename_i vs r;have e1:=VN hf r;have J:ps.map (λ(i,x)=>(i,a.eval x))=vs.toArray:=by apply Array.ext';simpa using e1
   simp only[execOp];apply g;rw[J];exact NA (by simpa using hk)
  ·exact hk.elim
 case h_17 t x lo E mx=>
  obtain⟨D,p,hk⟩:=Wr hk;simp only[execOp,hf _ _ p];apply g;split at hk
  ·rename_i l h m r z N;rw[AG hf r,AG hf z,AG hf N];exact Lg hk
  ·exact hk.elim
 case h_18 t x=>
  obtain⟨D,p,hk⟩:=Wr hk;rw[Wu]at hk;simp only[execOp,hf _ _ p];exact⟨_,by simp[run_makeInterface w t D hk.1],hk.2⟩
 case h_19 x xt t=>
  obtain⟨D,p,hk⟩:=Wr hk;simp only[execOp,hf _ _ p];apply g;split at hk
  case h_2=>exact hk.elim
  rename_i fs ti cs A E F;split at hk
  case h_2=>exact hk.elim
  rename_i zs hz;obtain⟨vs,b,j,e⟩:=hk.out;exact⟨_,Oh A E (by simpa using hz) j w,e⟩
 case h_20 c=>
  obtain⟨S,C,Q⟩:=c;simp only at hk;split at hk
  ·rename_i x t ha ht;have B:=ZE hf ha;have e1:C.map a.eval = #[x]:=by apply Array.ext';simpa using B
   have e2:Q = #[t]:=by apply Array.ext';simpa using ht
   subst e2;obtain⟨v,j,e⟩:=F8 (ty:=ty) hk;refine⟨v,?_,e⟩;simp[execOp,resolve,e1,invoke,builtin,j]
  ·rename_i L l n t ha ht;have B:=ZE hf ha;have e1:C.map a.eval = #[.slice L l n]:=by apply Array.ext';simpa using B
   have e2:Q = #[t]:=by apply Array.ext';simpa using ht
   subst e2;split at hk
   ·rename_i A;refine⟨_,?_,hk⟩;simp[execOp,resolve,e1,invoke,builtin,Builtin.cap_,run_underlying A,goInt]
   ·exact hk.elim
  ·rename_i x xs ha;have B:=ZE hf ha;have e1:C.map a.eval=(x::xs).toArray:=by apply Array.ext';simpa using B
   obtain⟨v,j,e⟩:=BC (P:=P) (w:=w) hk;refine⟨v,?_,e⟩;simp only[zR]at j;simp[execOp,resolve,e1,invoke,builtin,Builtin.max_,j]
  ·rename_i x xs ha;have B:=ZE hf ha;have e1:C.map a.eval=(x::xs).toArray:=by apply Array.ext';simpa using B
   obtain⟨v,j,e⟩:=BC (P:=P) (w:=w) hk;refine⟨v,?_,e⟩;simp only[zd,zy]at j;simp[execOp,resolve,e1,invoke,builtin,Builtin.min_,j]
  ·exact hk.elim
 ·exact hk.elim
def nb (P:Program):List TypeId->Option (List SK)
 | []=>some []
 | t::ts=>match jM P t,nb P ts with|some s,some ss=>some (s::ss)|_,_=>none
def VI (P:Program)(f:Nat):Bool:=
 match P.funcs[f]? with
 | some fn=>!(fn.name == "runtime.NumGoroutine") && fn.body.isSome
 | none=>false
def sM (P:Program)(f:Nat)(args:List Value)(h:Hp)(K:aO):Prop:=
 ∀w:World,w.heap=h->∃b w',(callFunc f args.toArray).run P w=.ok (.value (.bool b)) w'/\Xb w w'/\K b w'.heap
def BN (P:Program)(f:Nat)(args:List Value)(h:Hp)(K:Value->Hp->Prop):Prop:=
 match P.funcs[f]? with
 | some fn=>match nb P fn.resultTypes.toList with
  | some rs=>match VI P f with
   | true=>Wc P f args.toArray rs h (lam (eT rs) λvs h'=>K (pack rs vs) h')
   | false=>match rs with
    | [.one .b]=>sM P f args h λb h'=>K (.bool b) h'
    | _=>False
  | none=>False
 | none=>False
def Bi (P:Program)(v:Value)(name:String)(args:List Value)(ty:TypeId)(h:Hp)(K:Value->Hp->Prop):Prop:=
 match (match P.underlying ty with|some (.tuple ts)=>nb P ts.toList|_=>nb P [ty])with
 | some rs=>iV P v name args rs h (lam (eT rs) λvs h'=>K (pack rs vs) h')
 | none=>False
def y8 (P:Program)(fv:Fv):Prop:=VI P fv.f=true
def VH (P:Program)(fv:Fv)(args:List Value)(rs:List SK)(h:Hp)(R:eR (eT rs)):Prop:=
 y8 P fv/\D3 P fv args rs h R
def yv (P:Program)(fv:Fv)(args:List Value)(ty:TypeId)(h:Hp)(K:Value->Hp->Prop):Prop:=
 match (match P.underlying ty with|some (.tuple ts)=>nb P ts.toList|_=>nb P [ty])with
 | some rs=>VH P fv args rs h (lam (eT rs) λvs h'=>K (pack rs vs) h')
 | none=>False
def Ag (a:Addr)(vs:List Value)(h:Hp)(K:aP):Prop:=
 match vs with
 | [v]=>dX a v h K
 | vs=>nh a h vs 0 K
def qV (P:Program)(t:TypeId)(K:IntKind->CK->Prop):Prop:=
 match P.underlying t with
 | some (.map kt et)=>match P.underlying kt,od P et with
  | some (.int k),some (.one c)=>K k c
  | _,_=>False
 | _=>False
def Bo (P:Program)(t:TypeId)(len:Nat)(ps:List (Nat×Value))(K:TypeId->List Value->Prop):Prop:=
 match P.underlying t with
 | some (.slice e)=>match P.info? e with
  | some te=>match te.zero with
   | some z=>match len,ps with
    | 0,[]=>K e []
    | 0,_::_=>False
    | len+1,ps=>fQ (Nat.ble ((len+1)*te.size) 16777216&&Nat.blt 0 ((len+1)*te.size)&&z.cells.size==te.size)
     (match qM (λi=>some (i*te.size,te.size)) (List.replicate (len+1) z.cells.toList).flatten ps with
     | some cs=>K e cs
     | none=>False)
   | none=>False
  | none=>False
 | _=>False
def eK (P:Program)(o:Op)(ty:TypeId)(ρ:Env)(h:Hp)(K:Value->Hp->Prop):Prop:=
 match o with
 | .store t a x=>wv (ev ρ a) λva=>wv (ev ρ x) λvx=>match va with
  | .pointer (some a)=>bif vB P t then fQ ((P.info? t).isSome&&P.cellsOf t==1) (iR vx/\dX a vx h λh'=>K undef h')
   else fQ ((P.info? t).isSome&&vx.cells.size==P.cellsOf t) (xR vx.cells.toList (Ag a vx.cells.toList h λh'=>K undef h'))
  | _=>False
 | .alloc e=>match P.info? e with
  | some te=>match te.zero with
   | some z=>Nw (.cells z.cells e (0,0)) h λa h'=>K (.pointer (some a)) h'
   | none=>False
  | none=>False
 | .box e x=>wv (ev ρ x) λv=>bif vB P e then iR v/\Nw (.cells #[v] e (0,0)) h λa h'=>K (.pointer (some a)) h' else Nw (.cells v.cells e (0,0)) h λa h'=>K (.pointer (some a)) h'
 | .buildSlice t len ps=>match Hc ρ ps.toList with
  | some vs=>Bo P t len vs λe cs=>Nw (.cells cs.toArray e (0,0)) h λa h'=>K (.slice (some a) len len) h'
  | none=>False
 | .makeMap t r=>match r with
  | none=>Nw (.map #[] 0) h λa h'=>K (.map (some a.block)) h'
  | some _=>False
 | .makeSlice t l c=>wv (ev ρ l) λvl=>wv (ev ρ c) λvc=>match P.underlying t,vl,vc with
  | some (.slice e),.int .i64 n,.int .i64 m=>match P.info? e with
   | some te=>match te.zero with
    | some z=>fQ (z.cells.size==te.size&&Nat.blt 0 te.size) (Mk n m te.bytes e z.cells.toList h λs h'=>K (.slice s.a s.len s.cap) h')
    | none=>False
   | none=>False
  | _,_,_=>False
 | .range t x=>wv (ev ρ x) λv=>qV P t λki c=>match v with
  | .map m=>nC ki c m h λa h'=>K (.pointer (some a)) h'
  | _=>False
 | .mapUpdate t m k x=>wv (ev ρ m) λvm=>wv (ev ρ k) λvk=>wv (ev ρ x) λvx=>qV P t λki c=>match vm,vk with
  | .map m,.int k' n=>if ki=k' then mO c vx λx=>kc ki c m n x h λh'=>K undef h' else False
  | _,_=>False
 | .call c=>match c.callee,pa ρ c.args.toList,c.argTypes.toList with
  | .value (.func f),some args,_=>BN P f args h K
  | .value g,some args,_=>wv (ev ρ g) λvg=>mO .fn vg λfv=>yv P fv args ty h K
  | .invoke r name,some args,_=>wv (ev ρ r) λvr=>Bi P vr name args ty h K
  | .builtin .append,some [.slice sa sn sc,.slice xa xn xc],[t,t']=>match P.underlying t with
   | some (.slice e)=>match P.info? e with
    | some te=>match te.zero with
     | some z=>fQ (Nat.beq t t'&&z.cells.size==te.size&&Nat.blt 0 te.size) (App ⟨sa,sn,sc⟩ te.size te.bytes e z.cells.toList ⟨xa,xn,xc⟩ h λs h'=>K (.slice s.a s.len s.cap) h')
     | none=>False
    | none=>False
   | _=>False
  | .builtin .delete,some [.map m,.int k' n],t::_=>qV P t λki c=>if ki=k' then lJ ki c m n h λh'=>K (.tuple #[]) h' else False
  | .builtin .append,some [.slice sa sn sc,.int .i64 n],[t,t']=>match P.underlying t,P.underlying t' with
   | some (.slice e),some (.int _)=>match P.info? e with
    | some te=>match te.zero with
     | some z=>fQ (z.cells.size==te.size&&Nat.blt 0 te.size) (sJ ⟨sa,sn,sc⟩ te.size te.bytes e z.cells.toList n h λs h'=>K (.slice s.a s.len s.cap) h')
     | none=>False
    | none=>False
   | _,_=>False
  | .builtin .copy,some [.slice da dn dc,.slice xa xn xc],t::_=>match P.underlying t with
   | some (.slice e)=>match P.info? e with
    | some te=>sQ ⟨da,dn,dc⟩ te.size ⟨xa,xn,xc⟩ h λz h'=>K (.int .i64 z) h'
    | none=>False
   | _=>False
  | .builtin .clear,some [.slice sa sn sc],[t]=>match P.underlying t with
   | some (.slice e)=>match P.info? e with
    | some te=>match te.zero with
     | some z=>fQ (z.cells.size==te.size&&Nat.blt 0 te.size) (xN ⟨sa,sn,sc⟩ z.cells.toList h λh'=>K (.tuple #[]) h')
     | none=>False
    | none=>False
   | _=>False
  | _,_,_=>False
 | _=>False
def qN (P:Program)(o:Op)(ty:TypeId)(ρ:Env)(h:Hp)(K:Value->Hp->Prop):Prop:=
 bif sB o then qK P o ρ h (λv=>K v h)else eK P o ty ρ h K
theorem EU:∀{vs:List Value} {A:Prop},xR vs A->A/\∀v∈vs,dQ v=true
 | [],A,h=>⟨h,by simp⟩
 | v::vs,A,h=>by
  have h1:dQ v=true/\xR vs A:=by cases v<;>first|exact h.elim|exact⟨rfl,h⟩
  obtain⟨b,d⟩:=EU h1.2;exact⟨b,λu a=>by
   rcases zW.1 a with rfl|a
   ·exact h1.1
   ·exact d u a⟩
theorem Xb.refl (w:World):Xb w w:=⟨rfl,rfl,rfl,zD _⟩
theorem Xb.trans {a b c:World}(h:Xb a b)(k:Xb b c):Xb a c:=⟨k.1.trans h.1,k.2.1.trans h.2.1,k.2.2.1.trans h.2.2.1,ze h.2.2.2 k.2.2.2⟩
theorem KV (h:Hp)(a:Addr)(v:Value):(jQ h a v).size=h.size:=by simp[jQ]
theorem Ej {P:Program}{w:World}{a:Addr}{v:Value}(ho:dQ v=true)(h1:(cell w.heap a).isSome=true)(h2:nf w.heap a=false):(store a v).run P w=.ok () (w.setCell a v):=by
 obtain⟨u,d⟩:=pj.1 h1;have e:w.cell? a=some u:=d;have b:w.frozen? a=false:=h2;cases v<;>simp[dQ]at ho<;>simp[store,Sem.run,e,b]
theorem He {P:Program}:∀{vs:List Value} {w:World} {a:Addr} {i:Nat} {K:aP},(∀v∈vs,dQ v=true)->nh a w.heap vs i K →
 ∃w',(storeCells a vs i).run P w=.ok () w'/\Xb w w'/\K w'.heap
 | [],w,a,i,K,_,h=>⟨w,by simp[storeCells],.refl _,h⟩
 | v::vs,w,a,i,K,ho,h=>by
  obtain⟨h1,h2,h3⟩:=h;have j:=Ej (P:=P) (ho v aA) h1 h2;obtain⟨w',g,m,d⟩:=He (P:=P) (w:=w.setCell (a.add i) v) (λu e=>ho u (by simp[e])) h3;refine⟨w',?_,Xb.trans (b:=w.setCell (a.add i) v) ⟨rfl,rfl,rfl,Nat.le_of_eq (KV w.heap (a.add i) v).symm⟩ m,d⟩;simp only[storeCells,Sem.run_bind,j,Result.andThen_ok,g]
theorem Iy {P:Program}{vs:List Value}{w:World}{a:Addr}{K:aP}(ho:∀v∈vs,dQ v=true)(h:Ag a vs w.heap K) :
 ∃w',(storeCells a vs).run P w=.ok () w'/\Xb w w'/\K w'.heap:=by
 refine He ho ?_;unfold Ag at h;split at h
 ·simpa[nh,Addr.add_zero']using h
 ·exact h
def QF (P:Program)(s:Sem Next)(w:World)(K:Value->Hp->Prop):Prop:=
 (∃v w',s.run P w=.ok (.value v) w'/\Xb w w'/\K v w'.heap) ∨
 (∃w',s.run P w=.ok .skip w'/\Xb w w'/\K undef w'.heap) ∨
 (∃f args rs R,s.run P w=.ok (.enter f args) w/\Wc P f args rs w.heap R/\∀vs h',Sat (eT rs) R vs h'->K (pack rs vs) h')
theorem QF.upon {P:Program}{o:Oper}{a:Act}{w:World}{K:Value->Hp->Prop}{next:Act->World->Prop}{Q:Exit->Act->World->Prop}
 (h:QF P (execOp a.eval o) w K) (hn:∀v w',Xb w w'->K v w'.heap->next (a.put o.dst v) w'):o.wp P a w next Q:=by
 unfold Oper.wp;rcases h with⟨v,w',hr,b,hK⟩|⟨w',hr,b,hK⟩|⟨f,args,rs,R,hr,hc,hK⟩
 ·rw[hr];exact hn _ _ b hK
 ·rw[hr];exact hn _ _ b hK
 ·rw[hr];refine(hc w rfl).mono λe w' ⟨b,vs,g,d⟩=>?_;subst g;exact hn _ _ b (hK _ _ d)
theorem Vd {P:Program}{f:Nat}(h:VI P f=true)(args:Array Value)(w:World):(callFunc f args).run P w=.ok (.enter f args) w:=by
 unfold VI at h;split at h
 ·rename_i fn hf;simp only[zF,mj,mf]at h;obtain⟨a,b⟩:=h;obtain⟨c,d⟩:=pj.1 b;simp[callFunc,hf,a,d]
 ·cases h
theorem OL {P:Program}{f:Nat}{args:List Value}{w:World}{K:Value->Hp->Prop}(h:BN P f args w.heap K):QF P (callFunc f args.toArray) w K:=by
 unfold BN at h;split at h
 ·split at h
  ·rename_i rs hrs;split at h
   ·rename_i hc;exact .inr (.inr ⟨f,_,rs,_,Vd hc _ _,h,λvs j e=>VB e⟩)
   ·split at h
    ·obtain⟨b,a,d,g,i⟩:=h w rfl;exact .inl ⟨_,a,d,g,i⟩
    ·exact h.elim
  ·exact h.elim
 ·exact h.elim
theorem Lm {P:Program}{fv:Fv}{args:List Value}{ty:Nat}{w:World}{K:Value->Hp->Prop}(h:yv P fv args ty w.heap K) :
 QF P (callFunc fv.f (fv.first++args.toArray++fv.captured)) w K:=by
 unfold yv at h;split at h
 ·rename_i rs _;exact .inr (.inr ⟨_,_,rs,_,Vd h.1 _ _,h.2,λvs b a=>VB a⟩)
 ·exact h.elim
theorem NC {P:Program}{v:Value}{name:String}{args:List Value}{ty:Nat}{w:World}{K:Value->Hp->Prop}(h:Bi P v name args ty w.heap K) :
 QF P (callMethod v name args.toArray) w K:=by
 unfold Bi at h;split at h
 ·rename_i rs _;obtain⟨t,u,f,rfl,b,d,h⟩:=h;refine .inr (.inr ⟨f,_,rs,_,?_,h,λvs e a=>VB a⟩);simp only[callMethod,Sem.run_bind,run_program,Result.andThen_ok,b,d];simp
 ·exact h.elim
theorem Bf {P:Program}{t:Nat}{K:IntKind->CK->Prop}(h:qV P t K):∃kt et k c,P.underlying t=some (.map kt et)/\P.underlying kt=some (.int k)/\K k c:=by
 unfold qV at h;split at h
 ·split at h
  ·exact⟨_,_,_,_,by assumption,by assumption,h⟩
  ·exact h.elim
 ·exact h.elim
theorem V4 (w:World)(o:Obj):Xb w {w with heap:=w.heap.push o}:=⟨rfl,rfl,rfl,by simp⟩
theorem UM (h:Hp)(r:Nat)(o:Obj):Qk h (h.setIfInBounds r o) r:=⟨by simp,λb a=>by rw[xJ (Ne.symm a)]⟩
theorem B6 {es:List MapEntry}{k:IntKind}{c:CK}:∀(l:List (Int×c.T)) (es:List MapEntry) (j:Nat) (n:Int) (x:c.T),
 es.map (λe=>(e.key,e.val))=l.map (λx=>(Value.int k x.1,c.v x.2))->(l.map (·.1)).Nodup->l.findIdx? (λx=>x.1==n)=some j →
 (es.modify j λe=>{e with key:=.int k n,val:=c.v x}).map (λe=>(e.key,e.val))=(l.map λy=>if y.1==n then(n,x)else y).map (λx=>(Value.int k x.1,c.v x.2))
 | [],es,j,n,x,he,hn,hj=>by simp at hj
 | y::l,[],j,n,x,he,hn,hj=>by simp at he
 | y::l,e::es,j,n,x,he,hn,hj=>by
  simp only[zT,List.cons.injEq]at he;simp only[zT,zr]at hn;simp only[uU]at hj;cases hy:y.1==n
  ·rw[hy]at hj;simp only[zd,zy,ot]at hj;obtain⟨j',hj',rfl⟩:=hj;have:=B6 (es:=es) l es j' n x he.2 hn.2 hj';simp only[List.modify_succ_cons,zT,this,hy,he.1];simp
  ·rw[hy]at hj;simp at hj;subst hj;have a:y.1=n:=by simpa using hy
   simp only[List.modify_zero_cons,zT,hy,zR,List.cons.injEq,sf,he.2]
   congr 1
   have:∀z∈l,(z.1==n)=false:=by
    intro z hz;have:z.1≠y.1:=λe=>hn.1 (by rw[←e];exact wV hz);simpa[a]using this
   have e:l=l.map λz=>if z.1==n then(n,x)else z:=by
    conv=>lhs;rw[←uY l]
    apply ko;intro z hz;simp[this z hz]
   exact e
theorem JF {α:Type}{l:List (Int×α)}{n:Int}{j:Nat}(h:l.findIdx? (λx=>x.1==n)=some j):l.any (λx=>x.1==n)=true:=by
 obtain⟨x,a,rfl⟩:=VS h;rw[j9];exact⟨x,zG a,by simp⟩
theorem HV {α:Type}{l:List (Int×α)}{n:Int}(h:l.findIdx? (λx=>x.1==n)=none):l.any (λx=>x.1==n)=false:=by
 rw[ub]at h;rw[mh];simpa using h
theorem gL {α:Type}{l:List (Int×α)}{n:Int}{x:α}(hn:(l.map (·.1)).Nodup):((dB l n x).map (·.1)).Nodup:=by
 unfold dB;split
 ·have:(l.map λy=>if y.1==n then(n,x)else y).map (·.1)=l.map (·.1):=by
   rw[k8];apply ko;intro y _;simp only[Function.comp];split
   ·rename_i h;simp at h;exact h.symm
   ·rfl
  rwa [this]
 ·rename_i h;rw[kC,nt];refine⟨hn,by simp,?_⟩;intro a ha b hb;simp at hb;subst hb;rintro rfl;obtain⟨y,d,rfl⟩:=zE.1 ha;exact h (j9.2 ⟨y,d,by simp⟩)
theorem NL {P:Program}{t kt et:Nat}{k:IntKind}{c:CK}(hu:P.underlying t=some (.map kt et))(hk:P.underlying kt=some (.int k)){r:Nat}{l:List (Int×c.T)}{n:Int}{x:c.T}{w:World}
 (hm:dL w.heap r k c l):∃w',(Instr.mapUpdate t (.map (some r)) (.int k n) (c.v x)).run P w=.ok () w'/\Xb w w'/\Qk w.heap w'.heap r/\dL w'.heap r k c (dB l n x):=by
 obtain⟨es,d,p,i,E,F,C⟩:=hm;have A:r<w.heap.size:=(j3.1 p).1;have g:∀o,(w.heap.setIfInBounds r o)[r]?=some o:=λo=>by simp[A]
 cases hf:l.findIdx? (λx=>x.1==n)with
 | some j=>
  obtain⟨y,G,B⟩:=VS hf;have L:j<l.length:=(cW.1 G).1;have u:es.toList.length=l.length:=by simpa using congrArg List.length i
  have s:j<es.size:=by simp at u;omega
  have z:es[j].key=.int k n:=by
   have:=congrArg (λl=>l[j]?) i;simp only[zg,G,zX]at this;rw[uW,Array.getElem?_eq_getElem s]at this;simp at this;rw[this.1,B]
  refine⟨{w with heap:=w.heap.setIfInBounds r (.map (es.modify j λe=>{e with key:=.int k n,val:=c.v x}) d)},?_,⟨rfl,rfl,rfl,by simp⟩,UM _ _ _,?_⟩
  ·simp only[Instr.mapUpdate,Sem.run_bind,run_underlying hu,Result.andThen_ok,Qw hk,getObj,Sem.run,p,Kg hk i,hf];simp[Array.getElem?_eq_getElem s,z,Instr.keyThatStays,Instr.sameBits,setObj,Sem.run,p]
  ·refine⟨_,d,g _,?_,gL E,?_,?_⟩
   ·rw[A6,B6 (es:=[]) l es.toList j n x i E hf];simp[dB,JF hf]
   ·have:(es.modify j λe=>{e with key:=.int k n,val:=c.v x}).toList.map (·.born)=es.toList.map (·.born):=by
     rw[A6];apply zo;intro m;simp only[zg,r8];cases es.toList[m]?<;>simp
     split<;>rfl
    rw[this];exact F
   ·intro e he';have:e.born∈(es.modify j λe=>{e with key:=.int k n,val:=c.v x}).toList.map (·.born):=wV he';have e2:(es.modify j λe=>{e with key:=.int k n,val:=c.v x}).toList.map (·.born)=es.toList.map (·.born):=by
     rw[A6];apply zo;intro m;simp only[zg,r8];cases es.toList[m]?<;>simp
     split<;>rfl
    rw[e2]at this;obtain⟨K,H,J⟩:=zE.1 this;rw[←J];exact C K H
 | none=>
  refine⟨{w with heap:=w.heap.setIfInBounds r (.map (es.push {key:=.int k n,val:=c.v x,born:=d}) (d+1))},?_,⟨rfl,rfl,rfl,by simp⟩,UM _ _ _,?_⟩
  ·simp only[Instr.mapUpdate,Sem.run_bind,run_underlying hu,Result.andThen_ok,Qw hk,getObj,Sem.run,p,Kg hk i,hf];simp[setObj,Sem.run,p]
  ·refine⟨_,d+1,g _,?_,gL E,?_,?_⟩
   ·simp[dB,HV hf,i]
   ·simp only[Array.toList_push,kC,zT,qT,px];refine⟨F,by simp,?_⟩;intro a ha b hb';simp at hb';subst hb';obtain⟨e,D,rfl⟩:=zE.1 ha;exact C e D
   ·intro e he';simp only[Array.toList_push,zK,zN]at he';rcases he' with h|rfl
    ·have:=C e h;omega
    ·simp
theorem DZ {k:IntKind}{c:CK}:∀(l:List (Int×c.T)) (es:List MapEntry) (j:Nat) (n:Int),
 es.map (λe=>(e.key,e.val))=l.map (λx=>(Value.int k x.1,c.v x.2))->(l.map (·.1)).Nodup->l.findIdx? (λx=>x.1==n)=some j →
 (es.eraseIdx j).map (λe=>(e.key,e.val))=(cS l n).map (λx=>(Value.int k x.1,c.v x.2))
 | [],es,j,n,he,hn,hj=>by simp at hj
 | y::l,[],j,n,he,hn,hj=>by simp at he
 | y::l,e::es,j,n,he,hn,hj=>by
  simp only[zT,List.cons.injEq]at he;simp only[zT,zr]at hn;simp only[uU]at hj;cases hy:y.1==n
  ·rw[hy]at hj;simp only[zd,zy,ot]at hj;obtain⟨j',hj',rfl⟩:=hj;have:=DZ l es j' n he.2 hn.2 hj';simp only[List.eraseIdx_cons_succ,zT,this,cS,rQ,hy,he.1];simp
  ·rw[hy]at hj;simp at hj;subst hj;have a:y.1=n:=by simpa using hy
   simp only[List.eraseIdx_zero,List.tail_cons,cS,rQ,hy,Bool.not_true,zd,zy,he.2]
   congr 1
   symm
   rw[po];intro z hz;have:z.1≠y.1:=λe=>hn.1 (by rw[←e];exact wV hz);simpa[a]using this
theorem JW {α:Type}{l:List (Int×α)}{n:Int}(h:l.findIdx? (λx=>x.1==n)=none):cS l n=l:=by
 rw[ub]at h;unfold cS;rw[po];intro z hz;have:=h z hz;simpa using this
theorem jg {α:Type}{l:List (Int×α)}{n:Int}(hn:(l.map (·.1)).Nodup):((cS l n).map (·.1)).Nodup:=
 hn.sublist (List.Sublist.map _ sX)
theorem N4 {P:Program}{t kt et ty:Nat}{k:IntKind}{c:CK}(hu:P.underlying t=some (.map kt et))(hk:P.underlying kt=some (.int k)){m:Option Nat}{l:List (Int×c.T)}{n:Int}{w:World}{ats:List Nat}
 (hm:jc w.heap m k c l):∃w',(Builtin.delete_ (t::ats).toArray ty #[.map m,.int k n]).run P w=.ok (.tuple #[]) w'/\Xb w w'/\(∀r,m=some r->Qk w.heap w'.heap r)/\(m=none->w'.heap=w.heap)/\jc w'.heap m k c (cS l n):=by
 cases m with
 | none=>
  simp only[jc]at hm;subst hm;exact⟨w,by simp[Builtin.delete_,run_underlying hu,Qw hk],.refl _,λr h=>(by cases h),λ_=>rfl,rfl⟩
 | some r=>
  obtain⟨d,a,p,g,s,u,y⟩:=hm;have i:r<w.heap.size:=(j3.1 p).1;have b:∀o,(w.heap.setIfInBounds r o)[r]?=some o:=λo=>by simp[i]
  cases hf:l.findIdx? (λx=>x.1==n)with
  | some j=>
   refine⟨{w with heap:=w.heap.setIfInBounds r (.map (d.eraseIdxIfInBounds j) a)},?_,⟨rfl,rfl,rfl,by simp⟩,λz h=>(by cases h;exact UM _ _ _),(λh=>by cases h),?_⟩
   ·simp[Builtin.delete_,run_underlying hu,Qw hk,getObj,Sem.run,p,Kg hk g,hf,setObj]
   ·refine⟨_,a,b _,?_,jg s,?_,?_⟩
    ·rw[AN];exact DZ l d.toList j n g s hf
    ·rw[AN];exact u.sublist (List.Sublist.map _ (List.eraseIdx_sublist _ _))
    ·rw[AN];intro e he';exact y e ((List.eraseIdx_sublist _ _).mem he')
  | none=>
   refine⟨{w with heap:=w.heap.setIfInBounds r (.map d a)},?_,⟨rfl,rfl,rfl,by simp⟩,λz h=>(by cases h;exact UM _ _ _),(λh=>by cases h),?_⟩
   ·simp[Builtin.delete_,run_underlying hu,Qw hk,getObj,Sem.run,p,Kg hk g,hf,setObj]
   ·rw[JW hf];exact⟨d,a,b _,g,s,u,y⟩
theorem uF {P:Program}{w:World}{sz n:Nat}{s:Sl}{xs:List Value}(hl:xs.length=s.len*sz)(h:Rd w.heap s.a xs)(hn:n=s.len) :
 (Builtin.firstCells sz n (.slice s.a s.len s.cap)).run P w=.ok xs.toArray w:=by
 subst hn;obtain⟨a,len,cap⟩:=s;cases a with
 | none=>simp only[Rd]at h;subst h;simp[Builtin.firstCells]
 | some a=>
  simp only at hl h;simp only[Builtin.firstCells];rw[←hl];have:=run_loadCells_list (P:=P) (w:=w) a xs (λj v b=>h j v b);exact this
theorem Ve {z:Array Value}(hz:0<z.size):∀n,Builtin.zeroCells z n=(List.replicate n z.toList).flatten.toArray:=by
 intro n;apply Array.ext';simp only[Builtin.zeroCells,Array.toList_map,Array.toList_range]
 induction n with
 | zero=>simp
 | succ n ih=>
  rw[Ao,List.flatten_append];simp only[wD,List.flatten_nil,kX];rw[←ih];rw[Nat.succ_mul,List.range_add,kC,k8]
  congr 1
  apply List.ext_getElem
  ·simp
  ·intro i h1 h2;simp at h1 h2;simp[ux h1,h1]
theorem Cz (n c:Nat)(h:¬n<=c):Builtin.nextslicecap n c<=2*n:=by
 unfold Builtin.nextslicecap;split
 ·omega
 ·split
  ·omega
  ·have key:∀r c,c<=2*n->(Builtin.growBy n r c)<=2*n:=by
    intro r
    induction r with
    | zero=>intro c hc;simpa[Builtin.growBy]using hc
    | succ r ih=>
     intro c hc;simp only[Builtin.growBy];split
     ·exact hc
     ·exact ih _ O
   exact key _ _ O
theorem Lj {P:Program}{t e ty:Nat}{te:TypeInfo}{z:Value}{s x:Sl}{K:Sl->Hp->Prop}{w:World}(hu:P.underlying t=some (.slice e))(hi:P.info? e=some te)(hz:te.zero=some z)(hzs:z.cells.size=te.size)(hpos:0<te.size)
 (h:App s te.size te.bytes e z.cells.toList x w.heap K) :
 ∃r w',(Builtin.append_ #[t,t] ty #[.slice s.a s.len s.cap,.slice x.a x.len x.cap]).run P w=.ok (.slice (Sl.a r) r.len r.cap) w'/\Xb w w'/\K r w'.heap:=by
 obtain⟨L,F,G,H,M,N,B,V,W,b,d⟩:=h;have u:=uF (P:=P) (n:=s.len) G M rfl;have i:=uF (P:=P) (n:=x.len) H N rfl;by_cases hroom:s.len+x.len<=s.cap
 ·have b:=b hroom;cases hsa:s.a with
  | some a=>
   rw[hsa]at b;obtain⟨w',Q,S,A⟩:=He (P:=P) B b;rw[hsa]at u;refine⟨⟨some a,s.len+x.len,s.cap⟩,w',?_,S,A⟩;simp[Builtin.append_,run_underlying hu,sizeOf,typeInfo,hi,Builtin.lenOf,hroom,i,Q]
  | none=>
   rw[hsa]at b;rw[hsa]at u;refine⟨⟨none,s.len+x.len,s.cap⟩,w,?_,.refl _,b⟩;simp[Builtin.append_,run_underlying hu,sizeOf,typeInfo,hi,Builtin.lenOf,hroom,i]
 ·have d:=d hroom;have m:¬(2^48<Builtin.nextslicecap (s.len+x.len) s.cap*te.bytes):=by
   have:=Cz (s.len+x.len) s.cap hroom;have:Builtin.nextslicecap (s.len+x.len) s.cap*te.bytes<=2*(s.len+x.len)*te.bytes:=lS _ this;rw[wm]at this;omega
  have J:¬(IntKind.i64.max<((s.len+x.len:Nat):Int)):=by
   have:IntKind.i64.max=9223372036854775807:=by decide
   rw[this];omega
  have D:¬(IntKind.i64.max<((s.len:Int)+(x.len:Int))):=by
   have:IntKind.i64.max=9223372036854775807:=by decide
   rw[this];omega
  have E:=Ve (z:=z.cells) O;have y:s.cap<s.len+x.len:=by omega
  have g:¬(281474976710656<Builtin.nextslicecap (s.len+x.len) s.cap*te.bytes):=by simpa using m
  let q:=Question.appendCap (s.len+x.len) s.cap e
  let c:=q.cut (w.tape w.drawn q)
  have R:s.len+x.len<=c:=by simp only[c,q,Question.cut];omega
  have A:=d c R;refine⟨⟨some ⟨w.heap.size,0,none⟩,s.len+x.len,c⟩,{w with drawn:=w.drawn+1,heap:=w.heap.push (.cells (L++F++(List.replicate (c-(s.len+x.len)) z.cells.toList).flatten).toArray e (0,0))},?_,⟨rfl,rfl,rfl,by simp⟩,A⟩;have U:(Question.appendCap (s.len+x.len) s.cap e).forced=false:=rfl;have C:¬(9223372036854775807<(s.len:Int)+(x.len:Int)):=by omega
  have p:=uF (P:=P) (w:=w.drew) (n:=s.len) G (show Rd w.drew.heap s.a L from M) rfl;have j:=uF (P:=P) (w:=w.drew) (n:=x.len) H (show Rd w.drew.heap x.a F from N) rfl;simp[Builtin.append_,run_underlying hu,sizeOf,typeInfo,hi,Builtin.lenOf,hroom,C,U,g,p,j,zeroValue,hz,E,newRow];refine⟨rfl,?_⟩;unfold World.alloc World.drew;simp[c,q]
theorem I9 {P:Program}{t t' e ty:Nat}{te:TypeInfo}{z:Value}{s:Sl}{n:Int}{ki:IntKind}{K:Sl->Hp->Prop}{w:World}(hu:P.underlying t=some (.slice e))(hu':P.underlying t'=some (.int ki))(hi:P.info? e=some te)(hz:te.zero=some z)(hzs:z.cells.size=te.size)(hpos:0<te.size)
 (h:sJ s te.size te.bytes e z.cells.toList n w.heap K) :
 ∃r w',(Builtin.append_ #[t,t'] ty #[.slice s.a s.len s.cap,.int .i64 n]).run P w=.ok (.slice (Sl.a r) r.len r.cap) w'/\Xb w w'/\K r w'.heap:=by
 obtain⟨N,W,V,X,Q,h5,h6,Z,i,j⟩:=h;obtain⟨n,rfl⟩:=za N;simp only[dE]at h5 h6 Z i j;have F:=uF (P:=P) (n:=s.len) V X rfl;have R:∀v∈(List.replicate n z.cells.toList).flatten,dQ v=true:=by
  intro v G;simp only[List.mem_flatten,xQ]at G;obtain⟨l,⟨_,rfl⟩,G⟩:=G;exact Q v G
 have A:IntKind.i64.wrap (n:Int)=n:=by unfold IntKind.wrap;simp[IntKind.bits,IntKind.signed];omega
 have C:IntKind.i64.wrap 0=0:=by decide
 have u:=Ve (z:=z.cells) O;have B:¬((n:Int)<0):=by omega
 have S:¬((n:Int)*(te.bytes:Int)>2^48):=by
  have:(2:Int)^46<=2^48:=by decide
  omega
 have p:¬(281474976710656<(n:Int)*(te.bytes:Int)):=by simpa using S
 have U:n*te.size=0->(List.replicate n z.cells.toList).flatten=[]:=by
  intro h0;rcases ur.1 h0 with h|h
  ·subst h;simp
  ·omega
 by_cases hroom:s.len+n<=s.cap
 ·have i:=i hroom;cases hsa:s.a with
  | some a=>
   rw[hsa]at i;obtain⟨w',H,io,J⟩:=He (P:=P) R i;rw[hsa]at F;refine⟨⟨some a,s.len+n,s.cap⟩,w',?_,io,J⟩;by_cases hn:n*te.size=0
   ·have:=U hn;rw[this]at H;rcases ur.1 hn with hn'|hn'
    ·subst hn';have b:s.len<=s.cap:=by simpa using hroom
     simp[Builtin.append_,run_underlying hu,run_underlying hu',sizeOf,typeInfo,hi,Builtin.lenOf,b,asInt,asIntOf,C,H]
    ·omega
   ·have d:¬n=0:=λe=>hn (by rw[e];simp);have g:¬te.size=0:=by omega
    simp[Builtin.append_,run_underlying hu,run_underlying hu',sizeOf,typeInfo,hi,Builtin.lenOf,hroom,H,asInt,asIntOf,A,B,p,hn,d,g,zeroValue,hz,u]
  | none=>
   rw[hsa]at i;rw[hsa]at F;refine⟨⟨none,s.len+n,s.cap⟩,w,?_,.refl _,i⟩;by_cases hn:n*te.size=0
   ·rcases ur.1 hn with hn'|hn'
    ·subst hn';have b:s.len<=s.cap:=by simpa using hroom
     simp[Builtin.append_,run_underlying hu,run_underlying hu',sizeOf,typeInfo,hi,Builtin.lenOf,b,asInt,asIntOf,C]
    ·omega
   ·have d:¬n=0:=λe=>hn (by rw[e];simp);have g:¬te.size=0:=by omega
    simp[Builtin.append_,run_underlying hu,run_underlying hu',sizeOf,typeInfo,hi,Builtin.lenOf,hroom,asInt,asIntOf,A,B,p,hn,d,g,zeroValue,hz,u]
 ·have j:=j hroom;have D:¬(2^48<Builtin.nextslicecap (s.len+n) s.cap*te.bytes):=by
   have:=Cz (s.len+n) s.cap hroom;have:Builtin.nextslicecap (s.len+n) s.cap*te.bytes<=2*(s.len+n)*te.bytes:=lS _ this;rw[wm]at this;omega
  have m:¬(281474976710656<Builtin.nextslicecap (s.len+n) s.cap*te.bytes):=by simpa using D
  let q:=Question.appendCap (s.len+n) s.cap e
  let c:=q.cut (w.tape w.drawn q)
  have Y:s.len+n<=c:=by simp only[c,q,Question.cut];omega
  have J:=j c Y;refine⟨⟨some ⟨w.heap.size,0,none⟩,s.len+n,c⟩,{w with drawn:=w.drawn+1,heap:=w.heap.push (.cells (W++(List.replicate n z.cells.toList).flatten++(List.replicate (c-(s.len+n)) z.cells.toList).flatten).toArray e (0,0))},?_,⟨rfl,rfl,rfl,by simp⟩,J⟩;have hf:(Question.appendCap (s.len+n) s.cap e).forced=false:=rfl;have M:¬(9223372036854775807<(s.len:Int)+(n:Int)):=by omega
  have x:=uF (P:=P) (w:=w.drew) (n:=s.len) V (show Rd w.drew.heap s.a W from X) rfl;by_cases hn:n*te.size=0
  ·rcases ur.1 hn with hn'|hn'
   ·subst hn';have b:¬s.len<=s.cap:=by simpa using hroom
    have y:¬(281474976710656<Builtin.nextslicecap s.len s.cap*te.bytes):=by simpa using m
    have L:(Question.appendCap s.len s.cap e).forced=false:=rfl;have E:¬(9223372036854775807<(s.len:Int)):=by omega
    simp[Builtin.append_,run_underlying hu,run_underlying hu',sizeOf,typeInfo,hi,Builtin.lenOf,b,E,L,y,x,zeroValue,hz,u,newRow,asInt,asIntOf,C];refine⟨rfl,?_⟩;unfold World.alloc World.drew;simp[c,q]
   ·omega
  ·have d:¬n=0:=λe=>hn (by rw[e];simp);have g:¬te.size=0:=by omega
   simp[Builtin.append_,run_underlying hu,run_underlying hu',sizeOf,typeInfo,hi,Builtin.lenOf,hroom,M,hf,m,x,zeroValue,hz,u,newRow,asInt,asIntOf,A,B,p,hn,d,g];refine⟨rfl,?_⟩;unfold World.alloc World.drew;simp[c,q]
theorem Nf {P:Program}{t e ty:Nat}{ats:List TypeId}{te:TypeInfo}{d s:Sl}{K:aN}{w:World}(hu:P.underlying t=some (.slice e))(hi:P.info? e=some te)
 (h:sQ d te.size s w.heap K):∃z w',(Builtin.copy_ (t::ats).toArray ty #[.slice d.a d.len d.cap,.slice s.a s.len s.cap]).run P w=.ok (.int .i64 z) w'/\Xb w w'/\K z w'.heap:=by
 obtain⟨r,p,i,B,m⟩:=h;have g:(Builtin.firstCells te.size (min s.len d.len) (.slice s.a s.len s.cap)).run P w=.ok r.toArray w:=by
  obtain⟨a,len,cap⟩:=s;cases a with
  | none=>simp only[Rd]at i;subst i;simp[Builtin.firstCells]
  | some a=>
   simp only at p i;simp only[Builtin.firstCells];rw[←p];exact run_loadCells_list (P:=P) (w:=w) a r (λj v u=>i j v u)
 have b:Nat.min s.len d.len=min s.len d.len:=rfl;cases hda:d.a with
 | none=>
  rw[hda]at m;refine⟨_,w,?_,.refl _,m⟩;simp[Builtin.copy_,run_underlying hu,sizeOf,typeInfo,hi,Builtin.lenOf,g,b,goInt]
 | some a=>
  rw[hda]at m;obtain⟨w',x,y,A⟩:=He (P:=P) B m;refine⟨_,w',?_,y,A⟩;simp[Builtin.copy_,run_underlying hu,sizeOf,typeInfo,hi,Builtin.lenOf,g,b,x,goInt]
theorem Lq {P:Program}{t e ty:Nat}{te:TypeInfo}{z:Value}{s:Sl}{K:aP}{w:World}(hu:P.underlying t=some (.slice e))(hi:P.info? e=some te)(hz:te.zero=some z)(hzs:z.cells.size=te.size)(hpos:0<te.size)
 (h:xN s z.cells.toList w.heap K):∃w',(Builtin.clear_ #[t] ty #[.slice s.a s.len s.cap]).run P w=.ok (.tuple #[]) w'/\Xb w w'/\K w'.heap:=by
 obtain⟨g,h⟩:=h;have d:=Ve (z:=z.cells) O;obtain⟨a,len,cap⟩:=s;cases a with
 | none=>exact⟨w,by simp[Builtin.clear_,run_underlying hu],.refl _,h⟩
 | some a=>
  simp only at h;cases len with
  | zero=>
   simp[nh]at h;exact⟨w,by simp[Builtin.clear_,run_underlying hu],.refl _,h⟩
  | succ n=>
   obtain⟨w',i,j,m⟩:=He (P:=P) (λv b=>by
    simp only[List.mem_flatten,xQ]at b;obtain⟨l,⟨_,rfl⟩,b⟩:=b;exact g v b) h
   refine⟨w',?_,j,m⟩;simp[Builtin.clear_,run_underlying hu,zeroValue,typeInfo,hi,hz,d,i]
theorem LQ {P:Program}{t len:Nat}{ps:List (Nat×Value)}{K:TypeId->List Value->Prop}(h:Bo P t len ps K):∃e te z cs,P.underlying t=some (.slice e)/\P.info? e=some te/\te.zero=some z/\K e cs ∧
 ((len=0/\ps=[]/\cs=[])\/(len*te.size<=16777216/\0<len*te.size/\z.cells.size=te.size/\qM (λi=>some (i*te.size,te.size)) (List.replicate len z.cells.toList).flatten ps=some cs)):=by
 unfold Bo at h;split at h
 case h_2=>exact h.elim
 rename_i e hu;split at h
 case h_2=>exact h.elim
 rename_i te hi;split at h
 case h_2=>exact h.elim
 rename_i z hz;split at h
 ·exact⟨e,te,z,[],hu,hi,hz,h,.inl ⟨rfl,rfl,rfl⟩⟩
 ·exact h.elim
 ·rw[Wu]at h;obtain⟨a,h⟩:=h;simp only[zF,zS]at a;split at h
  case h_2=>exact h.elim
  rename_i cs hf;exact⟨e,te,z,cs,hu,hi,hz,h,.inr ⟨xz a.1.1,Nat.blt_eq.mp a.1.2,a.2,hf⟩⟩
theorem Dc {z:Array Value}(hz:0<z.size)(n:Nat):((Array.range (n*z.size)).map (z[· % z.size]!))=(List.replicate n z.toList).flatten.toArray:=Ve hz n
theorem IT {P:Program}{ρ:Env}{K:Value->Hp->Prop}{a:Act}{w:World}(hf:∀x v,ev ρ x=some v->a.eval x=v)(o:Oper)(hk:eK P o.op o.type ρ w.heap K) :
 QF P (execOp a.eval o) w K:=by
 obtain⟨dst,op,ty,pos,after,guard⟩:=o;simp only at hk;have p:∀{s:Sem Value},(∃v B,s.run P w=.ok v B/\Xb w B/\K v B.heap)->QF P (do pure (Next.value (←s)):Sem Next) w K:=by
  rintro s ⟨v,B,hv,J,D⟩;exact .inl ⟨v,B,by simp[hv],J,D⟩
 have M:∀{s:Sem Unit},(∃B,s.run P w=.ok () B/\Xb w B/\K undef B.heap)->QF P (do s;pure Next.skip:Sem Next) w K:=by
  rintro s ⟨B,hv,J,D⟩;exact .inr (.inl ⟨B,by simp[hv],J,D⟩)
 unfold eK at hk;split at hk
 case h_1 t x y=>
  obtain⟨va,L,hk0⟩:=Wr hk;clear hk;obtain⟨Z,hx,hk⟩:=Wr hk0;clear hk0;simp only[execOp,hf _ _ L,hf _ _ hx];split at hk
  ·rename_i ad;cases hraw:vB P t
   case true=>
    rw[hraw]at hk;simp only[cond_true]at hk;rw[Wu]at hk;obtain⟨hc,hif,s1,s2,D⟩:=hk;simp only[zF,zS]at hc;obtain⟨X,Y⟩:=hc;apply M;have hone:dQ Z=true:=by rcases hif with rfl|⟨t',u,rfl⟩<;>rfl
    have F:Z.cells = #[Z]:=by rcases hif with rfl|⟨t',u,rfl⟩<;>rfl
    have C:=Ej (P:=P) (w:=w) hone s1 s2;refine⟨w.setCell ad Z,?_,⟨rfl,rfl,rfl,Nat.le_of_eq (KV w.heap ad Z).symm⟩,D⟩;have hr':(storeCells ad #[Z].toList).run P w=.ok () (w.setCell ad Z):=by
     simp only[storeCells,Addr.add_zero',Sem.run_bind,C,Result.andThen_ok];rfl
    simp only[Instr.storeAt,Instr.sureAddr,Sem.run_bind,Sem.run_pure,Result.andThen_ok,storeVar,QA X,Y,F,ne_eq,zy];simpa using hr'
   rw[hraw]at hk;simp only[cond_false]at hk;rw[Wu]at hk;obtain⟨hc,hk⟩:=hk;simp only[zF,zS]at hc;obtain⟨X,Y⟩:=hc;obtain⟨hk,h3⟩:=EU hk;apply M;obtain⟨B,C,J,D⟩:=Iy (P:=P) h3 hk;refine⟨B,?_,J,D⟩;simp only[Instr.storeAt,Instr.sureAddr,Sem.run_bind,Sem.run_pure,Result.andThen_ok,storeVar,QA X,Y,ne_eq,not_true_eq_false,zy];simpa using C
  ·exact hk.elim
 case h_2 e=>
  split at hk
  case h_2=>exact hk.elim
  rename_i N H;split at hk
  case h_2=>exact hk.elim
  rename_i z S;apply p;refine⟨_,_,?_,V4 _ _,hk⟩;simp[Instr.alloc,Vb H S,newVar,newRow,newObj,Sem.run]
 case h_3 e x=>
  obtain⟨v,hv,hk⟩:=Wr hk;simp only[execOp,hf _ _ hv];apply p;cases hraw:vB P e
  case true=>
   rw[hraw]at hk;simp only[cond_true]at hk;have F:v.cells = #[v]:=by rcases hk.1 with rfl|⟨t',u,rfl⟩<;>rfl
   refine⟨_,_,?_,V4 _ _,hk.2⟩;simp[Instr.box,newVar,newRow,newObj,Sem.run,F]
  rw[hraw]at hk;refine⟨_,_,?_,V4 _ _,hk⟩;simp[Instr.box,newVar,newRow,newObj,Sem.run]
 case h_4 t len ps=>
  split at hk
  case h_2=>exact hk.elim
  rename_i vs hps;have e1:=VN hf hps;have d:ps.map (λ(i,x)=>(i,a.eval x))=vs.toArray:=by apply Array.ext';simpa using e1
  obtain⟨e,N,z,cs,E,H,S,hk,hcase⟩:=LQ hk;simp only[execOp,d];apply p;refine⟨_,_,?_,V4 _ _,hk⟩;rcases hcase with⟨rfl,rfl,rfl⟩|⟨hle,ab,hzs,hfl⟩
  ·simp only[Instr.buildSlice,Sem.run_bind,run_underlying E,Result.andThen_ok,sizeOf,VC H,Sem.run_pure,uc];simp[Instr.fill,newRow,newObj,Sem.run,Array.range_zero']
  have hts:0<N.size:=Nat.pos_of_mul_pos_left ab;have hfill:=Up _ _ _ _ hfl;have W:=Dc (z:=z.cells) O len;rw[hzs]at W;have hne:¬(len*N.size=0):=by omega
  have hle':¬(len*N.size>2^24):=by
   have:(2:Nat)^24=16777216:=by decide
   omega
  simp only[Instr.buildSlice,Sem.run_bind,run_underlying E,Result.andThen_ok,sizeOf,VC H,Sem.run_pure,hle',zy,hne,Vb H S,W,hzs,hfill,newRow,newObj,Sem.run]
 case h_5 t r=>
  split at hk
  ·apply p;refine⟨_,_,?_,V4 _ _,hk⟩;simp[Instr.makeMap,newObj,Sem.run]
  ·exact hk.elim
 case h_6 t l c=>
  obtain⟨vl,hl,hk⟩:=Wr hk;obtain⟨vc,hc,hk⟩:=Wr hk;simp only[execOp,hf _ _ hl,hf _ _ hc];split at hk
  case h_2=>exact hk.elim
  rename_i e n m E _;split at hk
  case h_2=>exact hk.elim
  rename_i N H;split at hk
  case h_2=>exact hk.elim
  rename_i z S;rw[Wu]at hk;obtain⟨j,h0,X,Y,h3,hk⟩:=hk;simp only[zF,zS]at j;have ab:0<N.size:=Nat.blt_eq.mp j.2;apply p;refine⟨_,_,?_,V4 _ _,hk⟩;have hwn:IntKind.i64.wrap n=n:=by unfold IntKind.wrap;simp[IntKind.bits,IntKind.signed];omega
  have hwm:IntKind.i64.wrap m=m:=by unfold IntKind.wrap;simp[IntKind.bits,IntKind.signed];omega
  have hbig:¬((N.bytes:Int)*m>2^48):=by
   have:(2:Int)^46<=2^48:=by decide
   omega
  have hm0:¬m<0:=by omega
  have hn0:¬n<0:=by omega
  have hnm:¬n>m:=by omega
  have aa:¬m<n:=by omega
  have W:=Dc (z:=z.cells) O m.toNat;have hrz2:Array.map (λx=>z.cells[x%z.cells.size]!) (Array.range (m.toNat*N.size))=(List.replicate m.toNat z.cells.toList).flatten.toArray:=by rw[←j.1];exact W
  have R:¬(281474976710656<(N.bytes:Int)*m):=by simpa using hbig
  by_cases hz0:m.toNat*N.size=0
  ·have hmz:m.toNat=0:=by
    rcases ur.1 hz0 with h|h
    ·exact h
    ·omega
   simp[Instr.makeSlice,run_underlying E,VC H,asInt,asIntOf,hwn,hwm,R,hm0,hn0,hnm,aa,askRoom,mark,sizeOf,hmz,newRow];rw[show Array.range 0 = #[]from rfl];simp
  ·simp[Instr.makeSlice,run_underlying E,VC H,asInt,asIntOf,hwn,hwm,R,hm0,hn0,hnm,aa,askRoom,mark,sizeOf,hz0,Vb H S,newRow,hrz2];intro _;rfl
 case h_7 t x=>
  obtain⟨v,hv,G⟩:=Wr hk;obtain⟨kt,et,ki,c,E,V,Q⟩:=Bf G;clear hk G;simp only[execOp,hf _ _ hv];split at Q
  case h_2=>exact Q.elim
  rename_i m;apply p;obtain⟨l,hm,D⟩:=Q;cases m with
  | none=>
   refine⟨_,{w with heap:=w.heap.push (.mapIter none 0 #[] 0)},?_,V4 _ _,D _ aA (λb hb=>by simp[vP,uQ hb]) ?_⟩
   ·simp[Instr.range,run_underlying E,newObj,Sem.run]
   ·simp only[jc]at hm;exact⟨hm,hm,rfl,0,#[],0,by simp⟩
  | some b=>
   obtain⟨es,clk,C,he,hn,hp,hb⟩:=hm;have hlt:b<w.heap.size:=(j3.1 C).1;refine⟨_,{w with heap:=w.heap.push (.mapIter (some b) clk #[] clk)},?_,V4 _ _,D _ aA (λb hb=>by simp[vP,uQ hb]) ?_⟩
   ·simp[Instr.range,run_underlying E,newObj,getObj,Sem.run,C]
   ·exact⟨es,clk,#[],by simp,by simp[vP,uQ hlt,C],he,hn,hp,hb,by rw[po.2 (λe _=>by simp)];exact he,λx hx=>by cases hx⟩
 case h_8 t m k x=>
  obtain⟨vm,hm,G⟩:=Wr hk;obtain⟨vk,hkk,Q⟩:=Wr G;obtain⟨Z,hx,hk3⟩:=Wr Q;obtain⟨kt,et,ki,c,E,V,U⟩:=Bf hk3;clear hk G Q hk3;simp only[execOp,hf _ _ hm,hf _ _ hkk,hf _ _ hx];split at U
  ·split at U
   ·rename_i e;subst e;obtain⟨x,rfl,r,l,rfl,hl,D⟩:=Vp U;apply M;obtain⟨B,C,J,ho,hl'⟩:=NL (P:=P) E V (x:=x) hl;exact⟨B,C,J,D _ ho hl'⟩
   ·exact U.elim
  ·exact U.elim
 case h_9 c=>
  obtain⟨callee,A,ats⟩:=c;simp only at hk;split at hk
  ·rename_i f args' L;have e1:=ZE hf L;have d:A.map a.eval=args'.toArray:=by apply Array.ext';simpa using e1
   have:=OL hk;simpa[execOp,resolve,d,Act.eval,Deferred.ofValue,invoke]using this
  ·rename_i g args' _ L;obtain⟨vg,hg,hk⟩:=Wr hk;obtain⟨fv,rfl,hk⟩:=Vp hk;have e1:=ZE hf L;have d:A.map a.eval=args'.toArray:=by apply Array.ext';simpa using e1
   have:=Lm hk;simpa[execOp,resolve,d,hf _ _ hg,CK.v,Deferred.ofValue,invoke]using this
  ·rename_i r name args' L;obtain⟨vr,C,hk⟩:=Wr hk;have e1:=ZE hf L;have d:A.map a.eval=args'.toArray:=by apply Array.ext';simpa using e1
   have:=NC hk;simpa[execOp,resolve,d,hf _ _ C,invoke]using this
  ·rename_i sa sn sc xa xn xc t t' L ht;have e1:=ZE hf L;have d:A.map a.eval = #[.slice sa sn sc,.slice xa xn xc]:=by apply Array.ext';simpa using e1
   have e2:ats = #[t,t']:=by apply Array.ext';simpa using ht
   subst e2;split at hk
   case h_2=>exact hk.elim
   rename_i e E;split at hk
   case h_2=>exact hk.elim
   rename_i N H;split at hk
   case h_2=>exact hk.elim
   rename_i z S;rw[Wu]at hk;obtain⟨j,hk⟩:=hk;simp only[zF,zS]at j;obtain⟨⟨X,Y⟩,h3⟩:=j;have ett:t=t':=zt X;subst ett;obtain⟨r,B,C,J,D⟩:=Lj (P:=P) (ty:=ty) E H S Y (Nat.blt_eq.mp h3) hk;refine .inl ⟨_,B,?_,J,D⟩;simp only at C;simp[execOp,resolve,d,invoke,builtin,C]
  ·rename_i m k' n t ats' L ht;have e1:=ZE hf L;have d:A.map a.eval = #[.map m,.int k' n]:=by apply Array.ext';simpa using e1
   have e2:ats=(t::ats').toArray:=by apply Array.ext';simpa using ht
   subst e2;obtain⟨kt,et,ki,c,E,V,G⟩:=Bf hk;clear hk;split at G
   ·rename_i e;subst e;obtain⟨l,hl,D⟩:=G;obtain⟨B,C,J,X,Y,h3⟩:=N4 (P:=P) (ty:=ty) (ats:=ats') E V (n:=n) hl;refine .inl ⟨_,B,?_,J,D _ X Y h3⟩;simp[execOp,resolve,d,invoke,builtin,C]
   ·exact G.elim
  ·rename_i sa sn sc n t t' L ht;have e1:=ZE hf L;have d:A.map a.eval = #[.slice sa sn sc,.int .i64 n]:=by apply Array.ext';simpa using e1
   have e2:ats = #[t,t']:=by apply Array.ext';simpa using ht
   subst e2;split at hk
   case h_2=>exact hk.elim
   rename_i e ki E hu';split at hk
   case h_2=>exact hk.elim
   rename_i N H;split at hk
   case h_2=>exact hk.elim
   rename_i z S;rw[Wu]at hk;obtain⟨j,hk⟩:=hk;simp only[zF,zS]at j;obtain⟨r,B,C,J,D⟩:=I9 (P:=P) (ty:=ty) E hu' H S j.1 (Nat.blt_eq.mp j.2) hk;refine .inl ⟨_,B,?_,J,D⟩;simp only at C;simp[execOp,resolve,d,invoke,builtin,C]
  ·rename_i da dn dc xa xn xc t ats' L ht;have e1:=ZE hf L;have d:A.map a.eval = #[.slice da dn dc,.slice xa xn xc]:=by apply Array.ext';simpa using e1
   have e2:ats=(t::ats').toArray:=by apply Array.ext';simpa using ht
   subst e2;split at hk
   case h_2=>exact hk.elim
   rename_i e E;split at hk
   case h_2=>exact hk.elim
   rename_i N H;obtain⟨r,B,C,J,D⟩:=Nf (P:=P) (ty:=ty) (ats:=ats') E H hk;refine .inl ⟨_,B,?_,J,D⟩;simp only at C;simp[execOp,resolve,d,invoke,builtin,C]
  ·rename_i sa sn sc t L ht;have e1:=ZE hf L;have d:A.map a.eval = #[.slice sa sn sc]:=by apply Array.ext';simpa using e1
   have e2:ats = #[t]:=by apply Array.ext';simpa using ht
   subst e2;split at hk
   case h_2=>exact hk.elim
   rename_i e E;split at hk
   case h_2=>exact hk.elim
   rename_i N H;split at hk
   case h_2=>exact hk.elim
   rename_i z S;rw[Wu]at hk;obtain⟨j,hk⟩:=hk;simp only[zF,zS]at j;obtain⟨B,C,J,D⟩:=Lq (P:=P) (ty:=ty) E H S j.1 (Nat.blt_eq.mp j.2) hk;refine .inl ⟨_,B,?_,J,D⟩;simp only at C;simp[execOp,resolve,d,invoke,builtin,C]
  ·exact hk.elim
 ·exact hk.elim
theorem B9 {k:IntKind}{c:CK}(p:MapEntry->Bool)(q:Int×c.T->Bool):∀(L:List MapEntry) (T:List (Int×c.T)),L.map (λe=>(e.key,e.val))=T.map (λx=>(Value.int k x.1,c.v x.2)) →
 (∀(j:Nat) (e:MapEntry) (y:Int×c.T),L[j]?=some e->T[j]?=some y->p e=q y)->(L.filter p).map (λe=>(e.key,e.val))=(T.filter q).map (λx=>(Value.int k x.1,c.v x.2))
 | [],T,h,_=>by
  cases T with
  | nil=>rfl
  | cons y T=>simp at h
 | e::L,[],h,_=>by simp at h
 | e::L,y::T,h,hpq=>by
  simp only[zT,List.cons.injEq]at h;have h0:=hpq 0 e y rfl rfl;have a:=B9 p q L T h.2 (λj g i b d=>hpq (j+1) g i (by simpa using b) (by simpa using d));simp only[rQ,h0];cases q y
  ·simpa using a
  ·simp[h.1,a]
theorem It.Rw {P:Program}{r:Nat}{k:IntKind}{c:CK}{m:Option Nat}{l todo:List (Int×c.T)}{cur:Option (Int×c.T)}{w:World}(hit:It w.heap r k c m l todo cur)(ty:Nat) :
 (todo=[]/\∃w',(Instr.next (.pointer (some ⟨r,0,none⟩)) false ty).run P w=.ok (.tuple #[.bool false]) w'/\Xb w w'/\w'.heap=w.heap) ∨
 (∃n x w',(n,x)∈todo/\(Instr.next (.pointer (some ⟨r,0,none⟩)) false ty).run P w=.ok (.tuple #[.bool true,.int k n,c.v x]) w'/\Xb w w'/\Qk w.heap w'.heap r ∧
  It w'.heap r k c m l (todo.filter λy=>!(y.1==n)) (some (n,x))):=by
 cases m with
 | none=>
  obtain⟨rfl,rfl,rfl,s,q,y,hr⟩:=hit;exact .inl ⟨rfl,w,by simp[Instr.next,getObj,Sem.run,hr],.refl _,rfl⟩
 | some b=>
  obtain⟨es,clk,seen,hr,hb,he,hn,hp,hlt,htodo,hcur⟩:=hit;have hrlt:r<w.heap.size:=(j3.1 hr).1;have hrb:r≠b:=λe=>by rw[e,hb]at hr;cases hr
  have hchk:¬((!seen.isEmpty && !es.isEmpty&&es.all (·.born≥clk))=true):=by
   intro h;simp only[zF,mj,Array.all_eq_true',zU]at h;obtain⟨⟨_,h2⟩,h3⟩:=h;have h2':es ≠ #[]:=by simpa[xT]using h2
   obtain⟨e,hme⟩:=Array.exists_mem_of_ne_empty es h2';have:=h3 e hme;have:=hlt e (by simpa using hme);omega
  have hold:((es.filter λe=>!seen.contains e.born).filter (·.born<clk))=es.filter λe=>!seen.contains e.born:=by
   rw[Array.filter_eq_self];intro e hme;have:e∈es:=(Array.mem_filter.1 hme).1;simpa using hlt e (by simpa using this)
  have hnew:((es.filter λe=>!seen.contains e.born).filter (·.born≥clk)) = #[]:=by
   rw[Array.filter_eq_empty_iff];intro e hme;have:e∈es:=(Array.mem_filter.1 hme).1;have:=hlt e (by simpa using this);simp;omega
  have hlist:(es.filter λe=>!seen.contains e.born).toList=es.toList.filter λe=>!seen.contains e.born:=Array.toList_filter;have hrun:∀(cand:Array (Option MapEntry)),cand=(if(es.filter λe=>!seen.contains e.born).isEmpty then #[none]else #[])++(es.filter λe=>!seen.contains e.born).map some →
   (Instr.next (.pointer (some ⟨r,0,none⟩)) false ty).run P w=(do
    match cand[←choose (.mapNext cand.size)]? with
    | some (some e)=>do
     setObj r (.mapIter (some b) clk (seen.push e.born) clk)
     pure (.tuple #[.bool true,e.key,e.val])
    | some none=>pure (.tuple #[.bool false])
    | none=>stuck "Next: no such candidate" : Sem Value).run P w := by
   rintro cand rfl;simp only[Instr.next,getObj,Sem.run_bind,Sem.run,hr,Result.andThen_ok,hb,hchk,zy,hold,hnew,Array.append_empty,zd,Sem.run_bind]
   try rfl
  cases htd:todo with
  | nil=>
   left;subst htd;have hnil:(es.filter λe=>!seen.contains e.born) = #[]:=by
    apply Array.ext';rw[hlist];have:=congrArg List.length htodo;simpa using this
   refine⟨rfl,w,?_,.refl _,rfl⟩;rw[hrun #[none] (by rw[hnil];simp)];simp[choose,Sem.run,Question.forced]
  | cons y ys=>
   right;have hlen:(es.filter λe=>!seen.contains e.born).size=todo.length:=by
    rw[←uK,hlist];simpa using congrArg List.length htodo
   have hne:(es.filter λe=>!seen.contains e.born).isEmpty=false:=by
    rw[htd]at hlen;simp only[zY]at hlen;cases hce:(es.filter λe=>!seen.contains e.born).isEmpty
    ·rfl
    ·rw[xT]at hce;rw[hce]at hlen;simp at hlen
   have key:∀(i:Nat),i<todo.length->∀w1:World,w1.heap=w.heap->Xb w w1->∃n x w',(n,x)∈todo ∧
    ((match ((es.filter λe=>!seen.contains e.born).map some)[i]? with
     | some (some e)=>do
      setObj r (.mapIter (some b) clk (seen.push e.born) clk)
      pure (.tuple #[.bool true,e.key,e.val])
     | some none=>pure (.tuple #[.bool false])
     | none=>stuck "Next: no such candidate" : Sem Value)).run P w1 = .ok (.tuple #[.bool true, .int k n, c.v x]) w' /\ Xb w w' /\ Qk w.heap w'.heap r ∧
    It w'.heap r k c (some b) l (todo.filter λy=>!(y.1==n)) (some (n,x)):=by
    intro i hi w1 hw1 io;have hi':i<(es.filter λe=>!seen.contains e.born).size:=by omega
    let e:=(es.filter λe=>!seen.contains e.born)[i]
    have hei:(es.filter λe=>!seen.contains e.born)[i]?=some e:=by simp[e,hi']
    have hti:(es.toList.filter λe=>!seen.contains e.born)[i]?=some e:=by rw[←hlist,uW];exact hei
    have hty:todo[i]?=some todo[i]:=by simp[hi]
    have hkv:(e.key,e.val)=(Value.int k todo[i].1,c.v todo[i].2):=by
     have:=congrArg (λl=>l[i]?) htodo;simp only[zg,hti,hty,zX,Option.some.injEq]at this;exact this
    simp only[Prod.mk.injEq]at hkv;have hmemF:e∈es.toList.filter λe=>!seen.contains e.born:=zG hti;have hme:e∈es.toList:=(zI.1 hmemF).1;have hns:seen.contains e.born=false:=by simpa using(zI.1 hmemF).2
    refine⟨todo[i].1,todo[i].2,{w1 with heap:=w1.heap.setIfInBounds r (.mapIter (some b) clk (seen.push e.born) clk)},kg _,?_,?_,?_,?_⟩
    ·have hr1:w1.heap[r]?=some (.mapIter (some b) clk seen clk):=by rw[hw1];exact hr
     simp only[Array.getElem?_map,hei,zX,setObj,Sem.run_bind,Sem.run,hr1,Result.andThen_ok,Sem.run_pure,hkv.1,hkv.2]
    ·exact⟨io.1,io.2.1,io.2.2.1,by simp only[Array.size_setIfInBounds];exact io.2.2.2⟩
    ·rw[hw1];exact UM _ _ _
    ·rw[hw1];refine⟨es,clk,seen.push e.born,by simp[hrlt],?_,he,hn,hp,hlt,?_,λx hx=>?_⟩
     ·rw[xJ hrb];exact hb
     ·-- the rest
      have hinj:∀e'∈es.toList,(e'.born==e.born)=true->e'=e:=by
       intro e' h1 h2;have h2':e'.born=e.born:=by simpa using h2
       obtain⟨p,hp1,kE⟩:=tN h1;obtain⟨q,hq1,hq2⟩:=tN hme;have hpw:=l3.1 hp;rcases oZ p q with h|h|h
       ·have:=hpw p q (by simpa using hp1) (by simpa using hq1) h;simp[kE,hq2,h2']at this
       ·subst h;rw[←kE,hq2]
       ·have:=hpw q p (by simpa using hq1) (by simpa using hp1) h;simp[kE,hq2,h2']at this
      have hf1:(es.toList.filter λe'=>!(seen.push e.born).contains e'.born)=(es.toList.filter λe'=>!seen.contains e'.born).filter λe'=>!(e'.born==e.born):=by
       rw[AM];apply vd;intro e' _;simp[Array.contains_eq_mem,Array.mem_push];rw[Bool.and_comm]
       congr 1
      rw[hf1];refine B9 _ _ _ _ htodo λj e' y h1 h2=>?_;have hm':e'∈es.toList:=(zI.1 (zG h1)).1;have hkv':(e'.key,e'.val)=(Value.int k y.1,c.v y.2):=by
       have:=congrArg (λl=>l[j]?) htodo;simp only[zg,h1,h2,zX,Option.some.injEq]at this;exact this
      simp only[Prod.mk.injEq]at hkv'
      congr 1
      rw[lO];constructor
      ·intro hb';have:=hinj e' hm' hb';subst this;have:=hkv'.1.symm.trans hkv.1;simp only[Value.int.injEq,sf]at this;simpa using this
      ·intro hy;have hy':y.1=todo[i].1:=by simpa using hy
       have hkk:e'.key=e.key:=by rw[hkv'.1,hkv.1,hy']
       obtain⟨p,hp1,kE⟩:=tN hm';obtain⟨q,hq1,hq2⟩:=tN hme;have hll:es.toList.length=l.length:=by simpa using congrArg List.length he
       have hk1:∀(p:Nat) (hp:p<es.toList.length),es.toList[p].key=.int k (l[p]' O).1:=by
        intro p hp;have:=congrArg (λl=>l[p]?) he;simp only[zg,cV hp,cV (show p<l.length by omega),zX,Option.some.injEq,Prod.mk.injEq]at this;exact this.1
       have e1:=hk1 p hp1;have e2:=hk1 q hq1;rw[kE]at e1;rw[hq2]at e2;rw[hkk,e2]at e1;simp only[Value.int.injEq,sf]at e1;have:p=q:=by
        have hnn:=l3.1 hn;rcases oZ p q with h|h|h
        ·exact absurd (by rw[rX,rX];exact e1.symm) (hnn p q aE aE h)
        ·exact h
        ·exact absurd (by rw[rX,rX];exact e1) (hnn q p aE aE h)
       subst this;rw[←kE,←hq2];simp
     ·cases hx;refine⟨e,hme,by simp,hkv.1,hkv.2⟩
   have hsz:((if(es.filter λe=>!seen.contains e.born).isEmpty then #[none]else #[])++(es.filter λe=>!seen.contains e.born).map some:Array (Option MapEntry))=(es.filter λe=>!seen.contains e.born).map some:=by
    rw[hne];simp
   rw[←htd];rw[hrun _ hsz.symm];have hpos:0<todo.length:=by rw[htd];simp
   simp only[Sem.run_bind,choose,Sem.run,Array.size_map,hlen];cases hfo:(Question.mapNext todo.length).forced
   ·simp only[zd,zy,Result.andThen_ok];exact key _ (by simp only[Question.cut];exact tZ _ hpos) _ rfl ⟨rfl,rfl,rfl,zD _⟩
   ·simp only[zR,Result.andThen_ok];exact key 0 hpos w rfl (.refl _)
theorem It.IQ {P:Program}{r:Nat}{k:IntKind}{c:CK}{m:Option Nat}{l todo:List (Int×c.T)}{n:Int}{x:c.T}{w:World}(hit:It w.heap r k c m l todo (some (n,x))) :
 (Instr.entry (.pointer (some ⟨r,0,none⟩))).run P w=.ok (.tuple #[.int k n,c.v x]) w:=by
 cases m with
 | none=>obtain⟨_,_,h,_⟩:=hit;cases h
 | some b=>
  obtain⟨z,F,A,B,E,K,L,C,J,u,i⟩:=hit;obtain⟨e,s,g,H,G⟩:=i _ rfl;have d:z.find? (·.born==e.born)=some e:=by
   rw[←Array.find?_toList,List.find?_eq_some_iff_getElem];obtain⟨p,a,kE⟩:=tN s;refine⟨by simp,p,a,kE,λj D=>?_⟩;have y:=l3.1 C j p (by simp;simp at a;omega) (by simpa using a) D;rw[rX,rX,kE]at y;rw[mj];cases hb2:(z.toList[j].born==e.born)
   ·rfl
   ·have:=zS.1 hb2;omega
  simp[Instr.entry,getObj,Sem.run,B,E,g,d,H,G]
def wZ (k:IntKind)(c:CK)(o:Op)(ρ:Env)(h:Hp)(K:Value->Hp->Prop):Prop:=
 match o with
 | .next x false=>wv (ev ρ x) λv=>match v with
  | .pointer (some a)=>nF k c a h (K (.tuple #[.bool false]) h) λn y h'=>K (.tuple #[.bool true,.int k n,c.v y]) h'
  | _=>False
 | .entry x=>wv (ev ρ x) λv=>match v with
  | .pointer (some a)=>nJ k c a h λn y=>K (.tuple #[.int k n,c.v y]) h
  | _=>False
 | _=>False
theorem It.spot {a:Addr}(h:a.off=0):∃s,a=⟨a.block,0,s⟩:=⟨a.spot,by cases a;simp at h;subst h;rfl⟩
theorem DM {P:Program}{k:IntKind}{c:CK}{ρ:Env}{K:Value->Hp->Prop}{a:Act}{w:World}(hf:∀x v,ev ρ x=some v->a.eval x=v)(o:Oper)(hk:wZ k c o.op ρ w.heap K):QF P (execOp a.eval o) w K:=by
 obtain⟨C,op,i,pos,g,u⟩:=o;simp only at hk;unfold wZ at hk;split at hk
 ·rename_i x;obtain⟨v,j,hk⟩:=Wr hk;simp only[execOp,hf _ _ j];split at hk
  case h_2=>exact hk.elim
  rename_i ad;obtain⟨r,m,l,e,z,d,B,D⟩:=hk;obtain⟨s,p⟩:=It.spot r;have b:∀w:World,(Instr.next (.pointer (some ad)) false i).run P w=(Instr.next (.pointer (some ⟨ad.block,0,none⟩)) false i).run P w:=by
   intro w;rw[p];rfl
  rcases d.Rw (P:=P) i with⟨ht,w',hr,io,hh⟩|⟨n,y,w',hm,hr,io,ho,hi'⟩
  ·exact .inl ⟨.tuple #[.bool false],w',by simp[b,hr],io,by rw[hh];exact B ht⟩
  ·exact .inl ⟨.tuple #[.bool true,.int k n,c.v y],w',by simp[b,hr],io,D n y hm _ ho hi'⟩
 ·rename_i x;obtain⟨v,j,hk⟩:=Wr hk;simp only[execOp,hf _ _ j];split at hk
  case h_2=>exact hk.elim
  rename_i ad;obtain⟨r,m,l,e,n,y,d,A⟩:=hk;obtain⟨s,p⟩:=It.spot r;have b:(Instr.entry (.pointer (some ad))).run P w=(Instr.entry (.pointer (some ⟨ad.block,0,none⟩))).run P w:=by
   rw[p];rfl
  exact .inl ⟨.tuple #[.int k n,c.v y],w,by simp[b,d.IQ (P:=P)],.refl _,A⟩
 ·exact hk.elim
structure Fits (N:Nat) (ρ:Env) (a:Act):Prop where
 defers:a.defers=[]
 size:a.tmps.size=N
 at_:∀i v,ρ i=some v->a.tmps[i]?=some v
theorem Fits.ev {N:Nat}{ρ:Env}{a:Act}(h:Fits N ρ a):∀x v,ev ρ x=some v->a.eval x=v:=by
 intro x v hx;cases x with
 | tmp t=>
  have:=h.at_ t v hx;simp[Act.eval,qR,this]
 | const u=>simp only[Vc.ev,Option.some.injEq]at hx;exact hx
 | global g=>simp only[Vc.ev,Option.some.injEq]at hx;exact hx
 | func f=>simp only[Vc.ev,Option.some.injEq]at hx;exact hx
def pX (N:Nat):Option Nat->Bool
 | some d=>Nat.blt d N
 | none=>true
theorem Fits.put {N:Nat}{ρ:Env}{a:Act}(h:Fits N ρ a){d:Option Nat}(hd:pX N d=true)(v:Value):Fits N (ρ.ib d v) (a.put d v):=by
 cases d with
 | none=>exact h
 | some d=>
  have j:d<N:=Nat.blt_eq.mp hd;refine⟨h.defers,by simp[Act.put,h.size],λi u b=>?_⟩;simp only[Env.ib,Env.put]at b;cases hi:Nat.beq i d
  ·rw[hi]at b;have g:i≠d:=λe=>by subst e;simp at hi
   simp only[Act.put];rw[xJ (Ne.symm g)];exact h.at_ i u b
  ·rw[hi]at b;have e:i=d:=zt hi;subst e;simp only[cond_true,Option.some.injEq]at b;subst b;simp[Act.put,h.size,j]
theorem Fits.weaken {N:Nat}{ρ ρ':Env}{a:Act}(h:Fits N ρ a)(hw:∀i v,ρ' i=some v->ρ i=some v):Fits N ρ' a:=
 ⟨h.defers,h.size,λi v b=>h.at_ i v (hw i v b)⟩
theorem GG (ρ:Env)(ds:List Nat):∀i v,ρ.dT ds i=some v->ρ i=some v:=by
 intro i v h;simp only[Env.dT]at h;cases hc:ds.contains i<;>rw[hc]at h<;>simp at h
 exact h
theorem Fits.lit {N:Nat}{ρ:Env}{a:Act}(h:Fits N ρ a){c:Nat}{b b':Bool}(hc:ρ c=some (.bool b))(e:b=b'):Fits N (ρ.put c (.bool b')) a:=by
 subst e;refine h.weaken λi v d=>?_;simp only[Env.put]at d;cases hi:Nat.beq i c
 ·rw[hi]at d;exact d
 ·rw[hi]at d;have e:i=c:=zt hi;subst e;rw[hc];exact d
def HW (ops:Array Oper)(o:Oper)(ρ:Env):Bool:=
 match o.guard with
 | none=>true
 | some (j,want)=>match (ops[j]?).bind (·.dst)with
  | some c=>match ρ c with
   | some (.bool b)=>b==want
   | _=>false
  | none=>false
def sE (ops:Array Oper)(o:Oper)(ρ:Env):Bool:=
 match o.guard with
 | none=>false
 | some (j,want)=>match (ops[j]?).bind (·.dst)with
  | some c=>match ρ c with
   | some (.bool b)=>!(b==want)
   | some (.tuple _)=>true
   | _=>false
  | none=>false
theorem Ze {N:Nat}{ops:Array Oper}{o:Oper}{ρ:Env}{a:Act}(hf:Fits N ρ a)(h:HW ops o ρ=true):Region.wanted o (yielded ops a.tmps)=true:=by
 unfold HW at h;unfold Region.wanted;cases hg:o.guard with
 | none=>rfl
 | some jw=>
  obtain⟨j,d⟩:=jw;rw[hg]at h;simp only at h ⊢;cases hc:(ops[j]?).bind (·.dst)with
  | none=>rw[hc]at h;cases h
  | some c=>
   rw[hc]at h;simp only at h;split at h
   ·rename_i b hb;have:=hf.at_ c _ hb;simp only[yielded,hc,Option.bind_some,this];simpa using h
   ·cases h
theorem KA {N:Nat}{ops:Array Oper}{o:Oper}{ρ:Env}{a:Act}(hf:Fits N ρ a)(h:sE ops o ρ=true):Region.wanted o (yielded ops a.tmps)=false:=by
 unfold sE at h;unfold Region.wanted;cases hg:o.guard with
 | none=>rw[hg]at h;cases h
 | some jw=>
  obtain⟨j,d⟩:=jw;rw[hg]at h;simp only at h ⊢;cases hc:(ops[j]?).bind (·.dst)with
  | none=>rw[hc]at h;cases h
  | some c=>
   rw[hc]at h;simp only at h;split at h
   ·rename_i b hb;have:=hf.at_ c _ hb;simp only[yielded,hc,Option.bind_some,this];simpa using h
   ·rename_i b hb;have:=hf.at_ c _ hb;simp only[yielded,hc,Option.bind_some,this];rfl
   ·cases h
def Ub (N:Nat)(ops:Array Oper):List Oper->Env->Bool
 | [],_=>true
 | o::os,ρ=>sE ops o ρ&&(pX N o.dst&&Ub N ops os (ρ.ib o.dst undef))
theorem EZ {P:Program}{N:Nat}{ops:Array Oper}{Q:Exit->Act->World->Prop}{tail:List Oper}{w:World}:∀{os:List Oper} {ρ:Env} {a:Act},Ub N ops os ρ=true->Fits N ρ a →
 (∀a',Fits N (ρ.dT (os.filterMap (·.dst))) a'->wpList P ops Q tail a' w)->wpList P ops Q (os++tail) a w
 | [],ρ,a,_,hf,h=>h a (hf.weaken (GG _ _))
 | o::os,ρ,a,hs,hf,h=>by
  simp only[Ub,zF]at hs;obtain⟨h1,h2,h3⟩:=hs;have m:=KA hf h1;simp only[kW,wpList,m];refine EZ h3 (hf.put h2 _) λa' g=>h a' (g.weaken λi v b=>?_);simp only[Env.dT]at b ⊢;cases hc:(List.filterMap (·.dst) (o::os)).contains i
  ·rw[hc]at b;simp only[cond_false]at b;have e:(List.filterMap (·.dst) os).contains i=false:=by
    cases hd:o.dst<;>simp_all
   have j:∀d,o.dst=some d->i≠d:=by
    intro d hd;simp_all
   rw[e];simp only[cond_false];cases hd:o.dst with
   | none=>exact b
   | some d=>
    have:=j d hd;simp only[Env.ib,Env.put];have:Nat.beq i d=false:=by
     cases hb:Nat.beq i d
     ·rfl
     ·exact absurd (zt hb) this
    rw[this];exact b
  ·rw[hc]at b;cases b
theorem Ec {P:Program}{N:Nat}{ops:Array Oper}{Q:Act->Prop}{tail:List Oper}{w:World}:∀{os:List Oper} {ρ:Env} {a:Act},Ub N ops os ρ=true->Fits N ρ a →
 (∀a',Fits N (ρ.dT (os.filterMap (·.dst))) a'->wpStill P ops w Q tail a')->wpStill P ops w Q (os++tail) a
 | [],ρ,a,_,hf,h=>h a (hf.weaken (GG _ _))
 | o::os,ρ,a,hs,hf,h=>by
  simp only[Ub,zF]at hs;obtain⟨h1,h2,h3⟩:=hs;have m:=KA hf h1;simp only[kW,wpStill,m];refine Ec h3 (hf.put h2 _) λa' g=>h a' (g.weaken λi v b=>?_);simp only[Env.dT]at b ⊢;cases hc:(List.filterMap (·.dst) (o::os)).contains i
  ·rw[hc]at b;simp only[cond_false]at b;have e:(List.filterMap (·.dst) os).contains i=false:=by
    cases hd:o.dst<;>simp_all
   have j:∀d,o.dst=some d->i≠d:=by
    intro d hd;simp_all
   rw[e];simp only[cond_false];cases hd:o.dst with
   | none=>exact b
   | some d=>
    have:=j d hd;simp only[Env.ib,Env.put];have:Nat.beq i d=false:=by
     cases hb:Nat.beq i d
     ·rfl
     ·exact absurd (zt hb) this
    rw[this];exact b
  ·rw[hc]at b;cases b
def bV (K:aO)(body:(Bool->Hp->Prop)->Prop):Prop:=∃J:Bool->Hp->Prop,(∀r h,J r h->K r h)/\body J
theorem bV.intro {K:aO}{body:(Bool->Hp->Prop)->Prop}(h:body K):bV K body:=⟨K,λ_ _ h=>h,h⟩
inductive RI where
 | op
 | it (k:IntKind) (c:CK)
 | cU (and:Bool) (n:Nat) (inner:List RI)
def A4 (b:Bool):Operand->Bool
 | .const (.bool b')=>b'==b
 | _=>false
def VY (ρ:Env)(x:Operand)(K:Bool->Prop):Prop:=match ev ρ x with
 | some (.bool r)=>K r
 | _=>False
def rm (ρ:Env)(c:Nat)(b:Bool):Bool:=match ρ c with
 | some (.bool b')=>b'==b
 | _=>false
def eC (P:Program)(N:Nat)(ops:Array Oper):Nat->List RI->List Oper->Env->Hp->(Env->Hp->Prop)->Prop
 | 0,_,_,_,_,_=>False
 | _+1,[],[],ρ,h,K=>K ρ h
 | n+1,.op::hs,o::os,ρ,h,K=>fQ (HW ops o ρ&&pX N o.dst) (qN P o.op o.type ρ h λv h'=>eC P N ops n hs os (ρ.ib o.dst v) h' K)
 | n+1,.it ki c::hs,o::os,ρ,h,K=>fQ (HW ops o ρ&&pX N o.dst) (wZ ki c o.op ρ h λv h'=>eC P N ops n hs os (ρ.ib o.dst v) h' K)
 | n+1,.cU and m inner::hs,os,ρ,h,K=>
  match os.drop m with
  | pk::rest=>match pk.op,pk.dst with
   | .pick (.tmp c) x y,some d=>match ρ c with
    | some (.bool b)=>fQ (Nat.blt d N&&(A4 (!and) (bif and then y else x)&&(HW ops pk (ρ.dT ((os.take m).filterMap (·.dst)))&&(rm ((ρ.put c (.bool (!and))).dT ((os.take m).filterMap (·.dst))) c (!and)&&Ub N ops (os.take m) (ρ.put c (.bool (!and)))))))
     (bV (λr h'=>eC P N ops n hs rest ((ρ.dT ((os.take m).filterMap (·.dst))).put d (.bool r)) h' K) λJ=>
      bif and then If b (eC P N ops n inner (os.take m) (ρ.put c (.bool true)) h λρ' h'=>fQ (HW ops pk ρ'&&rm ρ' c true) (VY ρ' x λr=>J r h')) (J false h)
      else If b (J true h) (eC P N ops n inner (os.take m) (ρ.put c (.bool false)) h λρ' h'=>fQ (HW ops pk ρ'&&rm ρ' c false) (VY ρ' y λr=>J r h')))
    | _=>False
   | _,_=>False
  | []=>False
 | _,_,_,_,_,_=>False
theorem Uq {P:Program}{ρ:Env}{K:Value->Hp->Prop}{a:Act}{w:World}(hf:∀x v,ev ρ x=some v->a.eval x=v)(o:Oper)(hk:qN P o.op o.type ρ w.heap K) :
 QF P (execOp a.eval o) w K:=by
 unfold qN at hk;cases hq:sB o.op
 ·rw[hq]at hk;exact IT hf o hk
 ·rw[hq]at hk;obtain⟨v,d,b⟩:=H7 hf o hk;exact .inl ⟨v,w,d,.refl _,b⟩
theorem Kj {ρ:Env}{x:Operand}{K:Bool->Prop}(h:VY ρ x K):∃r,ev ρ x=some (.bool r)/\K r:=by
 unfold VY at h;split at h
 ·exact⟨_,by assumption,h⟩
 ·exact h.elim
theorem yx {b:Bool}{x:Operand}(h:A4 b x=true)(ρ:Operand->Value)(hc:∀v,ρ (.const v)=v):ρ x=.bool b:=by
 unfold A4 at h;split at h
 ·rw[hc];simp at h;rw[h]
 ·cases h
theorem DH {P:Program}{a:Act}{w:World}{o:Oper}{c x y:Operand}{b r:Bool}{K:Value->Hp->Prop}(ho:o.op=.pick c x y)(hc:a.eval c=.bool b)(hr:a.eval (bif b then x else y)=.bool r)(hK:K (.bool r) w.heap) :
 QF P (execOp a.eval o) w K:=by
 obtain⟨g,op,i,pos,d,e⟩:=o;simp only at ho;subst ho;refine .inl ⟨_,w,?_,.refl _,hK⟩;cases b<;>simp at hr<;>simp[execOp,hc,asBool,hr]
def Vo (os:List Oper)(ρ ρ':Env):Prop:=∀i,(os.filterMap (·.dst)).contains i=false->∀v,ρ i=some v->ρ' i=some v
theorem Vo.cons {o:Oper}{os:List Oper}{ρ ρ':Env}{v:Value}(h:Vo os (ρ.ib o.dst v) ρ'):Vo (o::os) ρ ρ':=by
 intro i hi u hu;cases hd:o.dst with
 | none=>rw[hd]at h;exact h i (by simpa[hd]using hi) u hu
 | some d=>
  rw[hd]at h;simp[hd]at hi;refine h i (by simpa using hi.2) u ?_;simp only[Env.ib,Env.put];have:Nat.beq i d=false:=by
   cases hb:Nat.beq i d
   ·rfl
   ·exact absurd (zt hb) hi.1
  rw[this];exact hu
theorem Vo.cU {os rest:List Oper}{pk:Oper}{m d:Nat}{ρ ρ':Env}{r:Bool}(hd:pk.dst=some d)(hdrop:os.drop m=pk::rest)(h:Vo rest ((ρ.dT ((os.take m).filterMap (·.dst))).put d (.bool r)) ρ'):Vo os ρ ρ':=by
 intro i hi u hu;rw[←nu m os,hdrop,uP,y7,hd]at hi;simp only[qH,zK,zW,decide_eq_false_iff_not,not_or]at hi;refine h i (by simpa using hi.2.2) u ?_;simp only[Env.put,Env.dT];have:Nat.beq i d=false:=by
  cases hb:Nat.beq i d
  ·rfl
  ·exact absurd (zt hb) hi.2.1
 rw[this];have a:((os.take m).filterMap (·.dst)).contains i=false:=by simpa using hi.1
 rw[a];exact hu
theorem Fits.uo {N:Nat}{os:List Oper}{ρ ρ':Env}{a:Act}{c:Nat}{b b':Bool}(h:Fits N ρ' a)(hc:ρ c=some (.bool b))(e:b=b')(k:Vo os (ρ.put c (.bool b')) ρ'):Fits N (ρ.dT (os.filterMap (·.dst))) a:=by
 refine h.weaken λi v d=>?_;simp only[Env.dT]at d;cases hci:(os.filterMap (·.dst)).contains i
 ·rw[hci]at d;refine k i hci v ?_;simp only[Env.put];cases hb:Nat.beq i c
  ·exact d
  ·have e2:i=c:=zt hb;subst e2;simp only[cond_false]at d;rw[hc]at d;simp only[cond_true];rw[←e];exact d
 ·rw[hci]at d;cases d
theorem Uj {ρ:Env}{c:Nat}{b:Bool}(h:rm ρ c b=true):ρ c=some (.bool b):=by
 unfold rm at h;split at h
 ·rename_i b' hb;simp at h;rw[hb,h]
 ·cases h
theorem Kd {P:Program}{N:Nat}{ops:Array Oper}{Q:Exit->Act->World->Prop}:∀(n:Nat) {hs:List RI} {os:List Oper} {tail:List Oper} {ρ:Env} {a:Act} {w:World} {K:Env->Hp->Prop},
 eC P N ops n hs os ρ w.heap K->Fits N ρ a->(∀ρ' a' w',Fits N ρ' a'->Xb w w'->Vo os ρ ρ'->K ρ' w'.heap->wpList P ops Q tail a' w')->wpList P ops Q (os++tail) a w
 | 0,_,_,_,_,_,_,_,h,_,_=>(by simp only[eC]at h)
 | n+1,[],[],tail,ρ,a,w,K,h,hf,hK=>by
  simp only[eC]at h;exact hK ρ a w hf (.refl _) (λ_ _ _ h=>h) h
 | n+1,[],o::os,tail,ρ,a,w,K,h,hf,hK=>(by simp only[eC]at h)
 | n+1,.op::hs,[],tail,ρ,a,w,K,h,hf,hK=>(by simp only[eC]at h)
 | n+1,.op::hs,o::os,tail,ρ,a,w,K,h,hf,hK=>by
  simp only[eC]at h;rw[Wu]at h;obtain⟨hc,h⟩:=h;simp only[zF]at hc;have R:=Ze hf hc.1;simp only[kW,wpList,R,zR];refine .inl (QF.upon (Uq hf.ev o h) λv w' E u=>?_);exact Kd n u (hf.put hc.2 v) λρ' a' A g s C p=>hK ρ' a' A g (E.trans s) C.cons p
 | n+1,.it ki c::hs,[],tail,ρ,a,w,K,h,hf,hK=>(by simp only[eC]at h)
 | n+1,.it ki c::hs,o::os,tail,ρ,a,w,K,h,hf,hK=>by
  simp only[eC]at h;rw[Wu]at h;obtain⟨hc,h⟩:=h;simp only[zF]at hc;have R:=Ze hf hc.1;simp only[kW,wpList,R,zR];refine .inl (QF.upon (DM hf.ev o h) λv w' E u=>?_);exact Kd n u (hf.put hc.2 v) λρ' a' A g s C p=>hK ρ' a' A g (E.trans s) C.cons p
 | n+1,.cU and m inner::hs,os,tail,ρ,a,w,K,h,hf,hK=>by
  simp only[eC]at h;split at h
  case h_2=>exact h.elim
  rename_i pk rest hdrop;split at h
  case h_2=>exact h.elim
  rename_i c x y d hop hd;split at h
  case h_2=>exact h.elim
  rename_i b hb;rw[Wu]at h;obtain⟨hc,J,hJ,h⟩:=h;simp only[zF]at hc;obtain⟨L,U,ab,X,F⟩:=hc;have ad:pX N pk.dst=true:=by rw[hd];exact L
  have Y:os++tail=os.take m++(pk::rest++tail):=by
   rw[←hdrop,←zz,nu]
  rw[Y];have j:∀(r b':Bool) (z:Operand) a' w',b=b'->(bif b' then x else y)=z->Fits N (ρ.dT ((os.take m).filterMap (·.dst))) a'->Xb w w'->J r w'.heap->Region.wanted pk (yielded ops a'.tmps)=true →
   a'.eval (.tmp c)=.bool b'->a'.eval z=.bool r->wpList P ops Q (pk::rest++tail) a' w':=by
   intro r b' z a' w' e ez g E M R D hez;simp only[kW,wpList,R,zR];refine .inl (QF.upon (K:=λv W=>v=.bool r/\W=w'.heap) (DH hop D (by rw[ez];exact hez) ⟨rfl,rfl⟩) λv A s u=>?_);obtain⟨rfl,hh⟩:=u;have aa:=g.put (d:=some d) L (.bool r);rw[hd];have G:=hJ _ _ M;rw[←hh]at G;exact Kd n G aa λρ' ac w3 V S C p=>hK ρ' ac w3 V ((E.trans s).trans S) (Vo.cU hd hdrop C) p
  have run:∀(b':Bool) (z:Operand),b=b'->(bif b' then x else y)=z →
   eC P N ops n inner (os.take m) (ρ.put c (.bool b')) w.heap (λρ' W=>fQ (HW ops pk ρ'&&rm ρ' c b') (VY ρ' z λr=>J r W))->wpList P ops Q (os.take m++(pk::rest++tail)) a w:=by
   intro b' z e ez hseg;refine Kd n hseg (hf.lit hb e) λρ' a' w' g E C u=>?_;rw[Wu]at u;simp only[zF]at u;obtain⟨⟨hg,Z⟩,u⟩:=u;obtain⟨r,hr,M⟩:=Kj u;exact j r b' z a' w' e ez (g.uo hb e C) E M (Ze g hg) (g.ev _ _ (Uj Z)) (g.ev _ _ hr)
  have B:∀(b':Bool),b=b'->b' = !and->J (!and) w.heap->wpList P ops Q (os.take m++(pk::rest++tail)) a w:=by
   intro b' e eb M;subst eb;refine EZ F (hf.lit hb e) λa' g=>?_;have H:Fits N (ρ.dT ((os.take m).filterMap (·.dst))) a':=g.uo (ρ':=(ρ.put c (.bool (!and))).dT ((os.take m).filterMap (·.dst))) hb e (λi hi v hv=>by simp only[Env.dT,hi];exact hv);have D:=g.ev (.tmp c) _ (Uj X);refine j (!and) (!and) (bif (!and)then x else y) a' w e rfl H (.refl _) M (Ze H ab) D ?_;refine yx ?_ _ (λv=>rfl);cases and<;>exact U
  cases and
  ·simp only[cond_false]at h;cases b
   ·exact run false y rfl rfl (h.f rfl)
   ·exact B true rfl rfl (h.t rfl)
  ·simp only[cond_true]at h;cases b
   ·exact B false rfl rfl (h.f rfl)
   ·exact run true x rfl rfl (h.t rfl)
variable {P:Program}{ops:Array Oper}{Q:Exit->Act->World->Prop}
def wz (ops:Array Oper)(k i:Nat):Bool:=match ops[k]? with
 | none=>false
 | some o=>o.after.toList.any λe=>Region.binds .any e&&Nat.beq e.on i
def TS (S:World->Prop)(C:List Nat)(listed:Array Bool)(w:World):Prop:=S w\/∃k∈C,listed.getD k false=true
def anyS (P:Program)(ops:Array Oper)(Q:Exit->Act->World->Prop)(S:World->Prop)(C:List Nat):Nat->Array Bool->Act->World->Prop
 | 0,listed,a,w=>Region.ready .any ops listed=[]/\Q .normal a w
 | m+1,listed,a,w=>(Region.ready .any ops listed=[]->Q .normal a w) ∧
  ∀i,i∈Region.ready .any ops listed->wpOp P ops Q i (λa' w'=>TS S C (listed.setIfInBounds i true) w'/\anyS P ops Q S C m (listed.setIfInBounds i true) a' w') a w
theorem VE {S:World->Prop}{C:List Nat}:∀(m:Nat) (listed:Array Bool) (a:Act) (w:World),anyS P ops Q S C m listed a w->wpAny P .any ops Q m listed a w
 | 0,_,_,_,h=>h
 | m+1,_,_,_,h=>⟨h.1,λi hi=>wpOp_mono (λ_ _ h'=>VE m _ _ _ h'.2) (h.2 i hi)⟩
theorem TS.out {S:World->Prop}{C:List Nat}{listed:Array Bool}{w:World}(h:TS S C listed w)(hn:∀k∈C,listed.getD k false=false):S w:=by
 rcases h with h|⟨k,hk,hl⟩
 ·exact h
 ·rw[hn k hk]at hl;cases hl
theorem Rh {k i:Nat}{o:Oper}(ho:ops[k]?=some o)(hno:∀e∈o.after,Region.binds .any e=true->e.on≠i):wz ops k i=false:=by
 unfold wz;rw[ho];simp only;rw[mh];intro e he hb;simp only[zF]at hb;exact hno e (by simpa using he) hb.1 (zt hb.2)
theorem TS.drop {S:World->Prop}{C:List Nat}{listed:Array Bool}{w:World}{i j:Nat}(hij:i≠j)(hi:∀k∈C,k≠i)(h:TS S C ((listed.setIfInBounds i true).setIfInBounds j true) w):TS S C (listed.setIfInBounds j true) w:=by
 refine h.imp id ?_;rintro⟨k,hk,hl⟩;refine⟨k,hk,?_⟩;rw[Array.setIfInBounds_comm _ _ hij,getD_set_ne false (Ne.symm (hi k hk))]at hl;exact hl
theorem Oi {S T:World->Prop}{C:List Nat}{i:Nat}{oi:Oper}{v:Value}(hi:ops[i]?=some oi)(hsel:∀(j:Nat) (o:Oper) cs b,ops[j]?=some o->o.op≠.select cs b)
 (hQ:∀c a w,Q (.panic c) (a.put oi.dst v) w->Q (.panic c) a w) (hiC:∀k∈C,k≠i) (hT:(∀w,T w)\/((∀w,S w->T w)/\∀k∈C,wz ops k i=true)) :
 ∀(m:Nat) (listed:Array Bool) (a:Act) (w:World),
  (∀j oj,ops[j]?=some oj->j≠i->listed.getD j true=false->(∀e∈oj.after,Region.binds .any e=true->e.on≠i)->oi.apart ops oj=true) →
  i∈Region.ready .any ops listed->((∀w,T w)\/∀k∈C,listed.getD k false=false)->YieldsIf P ops T oi v a->TS S C listed w →
  anyS P ops Q S C m (listed.setIfInBounds i true) (a.put oi.dst v) w->anyS P ops Q S C (m+1) listed a w:=by
 have s:∀{listed:Array Bool} {a:Act} {w:World} {K:Act->World->Prop},((∀w,T w)\/∀k∈C,listed.getD k false=false)->YieldsIf P ops T oi v a->TS S C listed w->K (a.put oi.dst v) w →
  wpOp P ops Q i (λE B=>TS S C (listed.setIfInBounds i true) B/\K E B) a w:=by
  intro listed a w K g hy hS hK;refine hy.wpOp hi ?_ ⟨?_,hK⟩
  ·rcases hT with hT|⟨hT,_⟩
   ·exact hT w
   ·rcases g with g|g
    ·exact g w
    ·exact hT w (hS.out g)
  ·refine hS.imp id ?_;rintro⟨k,u,hl⟩;exact⟨k,u,by rw[getD_set_ne false (Ne.symm (hiC k u))];exact hl⟩
 intro m
 induction m with
 | zero=>
  intro listed a w _ hr g hy hS H;refine⟨λh=>by rw[h]at hr;simp at hr,λj D=>?_⟩;by_cases hji:j=i
  ·rw[hji];exact s g hy hS H
  ·have p:=ready_mono D hji;rw[H.1]at p;simp at p
 | succ m ih=>
  intro listed a w hfree hr g hy hS H;refine⟨λh=>by rw[h]at hr;simp at hr,λj D=>?_⟩;by_cases hji:j=i
  ·rw[hji];exact s g hy hS H
  ·obtain⟨A,oj,r,x⟩:=mem_ready.1 D;have d:=(mem_ready.1 hr).1;have z:∀e∈oj.after,Region.binds .any e=true->e.on≠i:=by
    intro e he hb heq;have p:=x e he hb;rw[heq]at p;rw[qR]at p d;cases hg:listed[i]? with
    | none=>rw[hg]at p;cases p
    | some b=>rw[hg]at p d;simp only[pC]at p d;rw[d]at p;cases p
   have M:=wpOp_putIf r (hfree j oj r hji A z) (λcs b=>hsel i oi cs b hi) (λcs b=>hsel j oj cs b r) hQ hy (H.2 j (ready_mono D hji));refine wpOp_mono (λE B J=>?_) M;have y:=J.2.1.drop (Ne.symm hji) hiC;refine⟨y,ih _ E B (λk ok u F L G=>?_) (ready_mono hr (Ne.symm hji)) ?_ J.1 y ?_⟩
   ·refine hfree k ok u F ?_ G;by_cases hjk:j=k
    ·rw[←hjk];exact A
    ·rwa [getD_set_ne true hjk]at L
   ·rcases hT with hT|⟨_,hw⟩
    ·exact .inl hT
    refine g.imp id λg k u=>?_;by_cases hjk:j=k
    ·exfalso;have:=hw k u;rw[←hjk,Rh r z]at this;cases this
    ·rw[getD_set_ne false hjk];exact g k u
   ·rw[Array.setIfInBounds_comm _ _ hji];exact J.2.2
theorem GX {S T:World->Prop}{C:List Nat}{i m:Nat}{oi:Oper}{v:Value}{listed:Array Bool}{a:Act}{w:World}(hi:ops[i]?=some oi)(hs:Region.noSelect ops=true)(hf:Region.free .any ops listed i=true)
 (hr:i∈Region.ready .any ops listed) (hQ:∀c a w,Q (.panic c) (a.put oi.dst v) w->Q (.panic c) a w) (hiC:C.contains i=false)
 (hT:(∀w,T w)\/((∀w,S w->T w)/\∀k∈C,wz ops k i=true)) (hn:(∀w,T w)\/∀k∈C,listed.getD k false=false) (hy:YieldsIf P ops T oi v a) (hS:TS S C listed w)
 (h:anyS P ops Q S C m (listed.setIfInBounds i true) (a.put oi.dst v) w):anyS P ops Q S C (m+1) listed a w:=
 Oi hi (Region.noSelect_spec hs) hQ (λk b e=>by subst e;rw[yn.2 b]at hiC;cases hiC) hT m listed a w (Region.free_spec hi hf) hr hn hy hS h
theorem Px {S:World->Prop}{C:List Nat}{rs:List Nat}{m:Nat}{listed:Array Bool}{a:Act}{w:World}(hr:Region.ready .any ops listed=rs)(hne:rs≠[])
 (h:∀i∈rs,wpOp P ops Q i (λa' w'=>TS S C (listed.setIfInBounds i true) w'/\anyS P ops Q S C m (listed.setIfInBounds i true) a' w') a w):anyS P ops Q S C (m+1) listed a w:=
 ⟨λb=>absurd (hr▸b) hne,hr▸h⟩
theorem RD {S:World->Prop}{C:List Nat}{listed:Array Bool}{a:Act}{w:World}(hr:Region.ready .any ops listed=[])(h:Q .normal a w):∀m,anyS P ops Q S C m listed a w
 | 0=>⟨hr,h⟩
 | _+1=>⟨λ_=>h,by rw[hr];simp⟩
theorem Ux {S:World->Prop}{C:List Nat}{id:Nat}{a:Act}{w:World}(hm:P.follows .mixedOrders=true)
 (h:anyS P ops Q S C ops.size (Array.replicate ops.size false) a {w with drawn:=w.drawn+1}):(Code.region id ops true).wp P Q a w:=
 wp_region_any hm (VE _ _ _ _ h)
end Go.Vc
namespace Go.Vc
open Go
def HO (P:Program):Op->Bool
 | .load _ _=>false
 | .lookup .. => false
 | .typeAssert .. => false
 | .convert s _ _=>match P.underlying s with
  | some (.slice _)=>false
  | _=>true
 | .call c=>match c.callee,c.argTypes.toList with
  | .builtin .len,[t]=>match P.underlying t with
   | some (.map _ _)=>false
   | some _=>true
   | none=>false
  | .builtin .cap,_=>true
  | .builtin .max,_=>true
  | .builtin .min,_=>true
  | _,_=>false
 | o=>sB o
theorem AP {op:BinOp}{k:IntKind}{x y:Int}{K:Value->Prop}(h:oW op k x y K):∃v,K v/\oW op k x y (· = v):=by
 cases op<;>simp only[oW,Ar,Nz,Nn]at h ⊢
 all_goals first
  | exact⟨_,h,rfl⟩
  | exact⟨_,h.2,h.1,rfl⟩
theorem HB {op:BinOp}{b:Bool}{K:Value->Prop}(h:mQ op b K):∃v,K v/\mQ op b (· = v):=by
 cases op<;>simp only[mQ]at h ⊢ <;> first|exact h.elim|exact⟨_,h,rfl⟩
theorem Sj {P:Program}{op:BinOp}{t:Nat}{x y:Value}{K:Value->Prop}(h:ly P op t x y K):∃v,K v/\ly P op t x y (· = v):=by
 unfold ly at h ⊢;split at h
 ·obtain⟨v,a,b⟩:=HB h;exact⟨v,a,by simp only[*]⟩
 ·obtain⟨v,a,b⟩:=HB h;exact⟨v,a,by simp only[*]⟩
 ·obtain⟨v,a,b⟩:=HB h;exact⟨v,a,by simp only[*]⟩
 ·obtain⟨d,h⟩:=h;obtain⟨v,a,b⟩:=HB h;exact⟨v,a,by simp only[*];trivial⟩
 ·exact h.elim
theorem MX {P:Program}{op:BinOp}{t:Nat}{x y:Value}{K:Value->Prop}(h:lb P op t x y K):∃v,K v/\lb P op t x y (· = v):=by
 unfold lb at h ⊢;split at h
 ·split at h
  ·obtain⟨v,a,b⟩:=AP h;exact⟨v,a,by simpa[*]using b⟩
  ·rename_i hne;cases op<;>simp only at h
   all_goals try exact h.elim
   ·obtain⟨v,a,b⟩:=AP h;exact⟨v,a,by simpa[hne]using b⟩
   ·obtain⟨v,a,b⟩:=AP h;exact⟨v,a,by simpa[hne]using b⟩
 ·split at h
  ·obtain⟨v,a,b⟩:=HB h;exact⟨v,a,by simp only[*]⟩
  ·exact h.elim
 ·cases op<;>simp only at h ⊢ <;> first|exact h.elim|exact⟨_,h,rfl⟩
 ·exact h.elim
theorem Mv {P:Program}{op:BinOp}{t:Nat}{xs ys:List Value}{K:Value->Prop}(h:m8 P op t xs ys K):∃v,K v/\m8 P op t xs ys (· = v):=by
 unfold m8 at h ⊢;split at h
 case h_3=>exact h.elim
 all_goals
  rename_i hu;rw[Wu]at h;obtain⟨e,h⟩:=h;split at h
  case h_2=>exact h.elim
  rename_i b hb;obtain⟨v,a,d⟩:=HB h;exact⟨v,a,by simp only[hu,Wu,hb];exact⟨e,d⟩⟩
theorem M0 {P:Program}{op:BinOp}{t:Nat}{y:Operand}{vx vy:Value}{K:Value->Prop}(h:vU P op t y vx vy K):∃v,K v/\vU P op t y vx vy (· = v):=by
 unfold vU at h ⊢;cases hn:uV y
 ·rw[hn]at h;simp only[cond_false]at h ⊢;split at h
  ·exact Mv h
  ·exact MX h
 ·rw[hn]at h;exact Sj h
theorem tY {o:Option Value}{K:Value->Prop}(h:wv o K):∃v,K v/\wv o (· = v):=by
 obtain⟨v,rfl,a⟩:=Wr h;exact⟨v,a,rfl⟩
theorem II {P:Program}{t off:Nat}{cs:List Value}{K:Value->Prop}(h:uf P t cs off K):∃v,K v/\uf P t cs off (· = v):=by
 unfold uf at h ⊢;split at h
 case h_2=>exact h.elim
 rename_i d ti hu hi;cases hd:V7 d
 ·rw[hd]at h;obtain⟨v,a,b⟩:=tY h;exact⟨v,a,by simpa[hd]using b⟩
 ·rw[hd]at h;exact⟨_,h,by simp⟩
theorem PE {P:Program}{t:Nat}{ps:List (Nat×Value)}{K:Value->Prop}(h:mT P t ps K):∃v,K v/\mT P t ps (· = v):=by
 unfold mT at h ⊢;split at h
 ·split at h
  ·rename_i z hz;have key:∀{ps:List (Nat×Value)} {raw:Nat->Bool} {A:Prop},ld raw ps A->A/\∀B:Prop,B->ld raw ps B:=by
    intro ps raw
    induction ps with
    | nil=>intro A h;exact⟨h,λB b=>b⟩
    | cons x ps ih=>
     intro A h;simp only[ld]at h ⊢;cases hr:raw x.1
     ·rw[hr]at h;exact ih h
     ·rw[hr]at h;simp only[cond_true]at h ⊢;exact⟨(ih h.2).1,λB b=>⟨h.1,(ih h.2).2 B b⟩⟩
   obtain⟨h,a⟩:=key h;split at h
   ·rename_i cs hf;rw[Wu]at h;refine⟨_,h.2,?_⟩;simp only[*];refine a _ ?_;rw[Wu]
    first|exact⟨h.1,trivial⟩|exact⟨rfl,trivial⟩
   ·exact h.elim
  ·exact h.elim
 ·split at h
  ·split at h
   ·refine⟨_,h,?_⟩;simp only[*]
   ·exact h.elim
  ·exact h.elim
 ·exact h.elim
theorem Ny {P:Program}{t:Nat}{x:Value}{lo hi mx:Option Value}{K:Value->Prop}(h:mW P t x lo hi mx K):∃v,K v/\mW P t x lo hi mx (· = v):=by
 unfold mW at h ⊢;split at h
 case h_2=>exact h.elim
 rename_i e a n c hu;split at h
 case h_2=>exact h.elim
 rename_i ti hi';simp only at h ⊢;split at h
 case h_2=>exact h.elim
 rename_i l hh m hlo hhi hmx;obtain⟨j,b,d,i,g⟩:=h;refine⟨_,g,?_⟩;simp only[hu,hi',hlo,hhi,hmx];exact⟨j,b,d,i,rfl⟩
theorem BB:∀{vs:List Value} {v:Value} {b:Bool} {K:Value->Prop},nW b v vs K->∃z,K z/\nW b v vs (· = z)
 | [],v,b,K,h=>⟨v,by simpa[nW]using h,by simp[nW]⟩
 | u::vs,v,b,K,h=>by
  cases v<;>cases u<;>simp only[nW]at h ⊢ <;> try exact h.elim
  exact BB h
theorem Oa {P:Program}{o:Op}(hp:HO P o=true){ρ:Env}{h:Hp}{K:Value->Prop}(hk:qK P o ρ h K):∃v,K v/\∀h',qK P o ρ h' (· = v):=by
 unfold qK at hk;split at hk
 case h_1 x=>obtain⟨v,a,e⟩:=tY hk;exact⟨v,a,λ_=>e⟩
 case h_2 x=>obtain⟨v,a,e⟩:=tY hk;exact⟨v,a,λ_=>e⟩
 case h_3 c x y=>
  obtain⟨v,B,hk⟩:=Wr hk;split at hk
  ·obtain⟨u,a,e⟩:=tY hk;exact⟨u,a,λ_=>by simpa only[qK,B,wv]using e⟩
  ·obtain⟨u,a,e⟩:=tY hk;exact⟨u,a,λ_=>by simpa only[qK,B,wv]using e⟩
  ·exact hk.elim
 case h_4=>simp[HO]at hp
 case h_5 x=>
  obtain⟨v,B,hk⟩:=Wr hk;split at hk
  ·obtain⟨D,rfl,p⟩:=hk;exact⟨_,p,λ_=>by simp only[qK,B,wv];exact⟨D,rfl,rfl⟩⟩
  ·exact⟨_,hk,λ_=>by simp only[qK,B,wv]⟩
  ·exact hk.elim
 case h_6 op t x y yt=>
  obtain⟨j,g,hk⟩:=Wr hk;obtain⟨N,J,E⟩:=Wr hk;obtain⟨v,a,e⟩:=M0 E;exact⟨v,a,λ_=>by simpa only[qK,g,J,wv]using e⟩
 case h_7 op t x=>
  obtain⟨j,g,hk⟩:=Wr hk;split at hk
  ·exact⟨_,hk,λ_=>by simp only[qK,g,wv]⟩
  ·exact⟨_,hk,λ_=>by simp only[qK,g,wv,Ar]⟩
  ·exact hk.elim
 case h_8 s d x=>
  obtain⟨j,g,hk⟩:=Wr hk;split at hk
  ·rename_i a e;exact⟨_,hk,λ_=>by simp only[qK,g,wv,a,e,Ar]⟩
  ·rename_i a e;exact⟨_,hk,λ_=>by simp only[qK,g,wv,a,e]⟩
  ·rename_i a e;simp[HO,a]at hp
  ·exact hk.elim
 case h_9 s x f=>
  obtain⟨j,g,hk⟩:=Wr hk;obtain⟨F,H,C,z,hk⟩:=Gf hk;split at hk
  ·rw[Wu]at hk;exact⟨_,hk.2,λ_=>by simp only[qK,g,wv,ng,C,z,Wu];exact⟨hk.1,trivial⟩⟩
  ·exact hk.elim
 case h_10 s x f=>
  obtain⟨j,g,hk⟩:=Wr hk;obtain⟨F,H,C,z,hk⟩:=Gf hk;split at hk
  ·obtain⟨v,a,e⟩:=II hk;exact⟨v,a,λ_=>by simpa only[qK,g,wv,ng,C,z]using e⟩
  ·exact hk.elim
 case h_11 t x i=>
  obtain⟨j,g,hk⟩:=Wr hk;obtain⟨L,A,hk⟩:=Wr hk;split at hk
  ·have w:=(by assumption:P.underlying t=some _);rw[Wu]at hk;obtain⟨a,D,rfl,e,r,p⟩:=hk;exact⟨_,p,λ_=>by simp only[qK,g,A,wv,w,Wu];exact⟨a,D,rfl,e,r,rfl⟩⟩
  ·have w:=(by assumption:P.underlying t=some _);rw[Wu]at hk;obtain⟨a,e,r,p⟩:=hk;exact⟨_,p,λ_=>by simp only[qK,g,A,wv,w,Wu];exact⟨a,e,r,rfl⟩⟩
  ·exact hk.elim
 case h_12 t x i=>
  obtain⟨j,g,hk⟩:=Wr hk;obtain⟨L,A,hk⟩:=Wr hk;split at hk
  ·have w:=(by assumption:P.underlying t=some _);obtain⟨b,a,e,p⟩:=hk;exact⟨_,p,λ_=>by simp only[qK,g,A,wv,w];exact⟨b,a,e,rfl⟩⟩
  ·exact hk.elim
 case h_13=>simp[HO]at hp
 case h_14 t i=>
  obtain⟨j,g,hk⟩:=Wr hk;split at hk
  ·obtain⟨v,a,e⟩:=tY hk;exact⟨v,a,λ_=>by simpa only[qK,g,wv]using e⟩
  ·exact hk.elim
 case h_15 fn x y=>
  split at hk
  ·rename_i va vb a e;exact⟨_,hk,λ_=>by simp only[qK,a,e]⟩
  ·exact hk.elim
 case h_16 t ps=>
  split at hk
  ·rename_i vs a;obtain⟨v,e,r⟩:=PE hk;exact⟨v,e,λ_=>by simpa only[qK,a]using r⟩
  ·exact hk.elim
 case h_17 t x lo A mx=>
  obtain⟨j,g,hk⟩:=Wr hk;split at hk
  ·rename_i l h m a e r;obtain⟨v,M,G⟩:=Ny hk;exact⟨v,M,λ_=>by simpa only[qK,g,wv,a,e,r]using G⟩
  ·exact hk.elim
 case h_18 t x=>
  obtain⟨j,g,hk⟩:=Wr hk;rw[Wu]at hk;exact⟨_,hk.2,λ_=>by simp only[qK,g,wv,Wu];exact⟨hk.1,trivial⟩⟩
 case h_19=>simp[HO]at hp
 case h_20 c=>
  split at hk
  ·rename_i x t hc ha ht;unfold lr at hk;split at hk
   ·exact⟨_,hk,λ_=>by simp only[qK,hc,ha,ht,lr, *]⟩
   ·exact⟨_,hk,λ_=>by simp only[qK,hc,ha,ht,lr, *]⟩
   ·exact⟨_,hk,λ_=>by simp only[qK,hc,ha,ht,lr, *]⟩
   ·rename_i w;simp only[HO,hc,ht,w]at hp;cases hp
   ·exact hk.elim
  ·rename_i hc ha ht;split at hk
   ·exact⟨_,hk,λ_=>by simp only[qK,hc,ha,ht, *]⟩
   ·exact hk.elim
  ·rename_i hc ha;obtain⟨v,a,e⟩:=BB hk;exact⟨v,a,λ_=>by simpa only[qK,hc,ha]using e⟩
  ·rename_i hc ha;obtain⟨v,a,e⟩:=BB hk;exact⟨v,a,λ_=>by simpa only[qK,hc,ha]using e⟩
  ·exact hk.elim
 ·exact hk.elim
def gD (S:aP)(c:CK)(a:Addr)(K:c.T->Prop):Prop:=∃x,(∀h,S h->cell h a=some (c.v x))/\K x
def sD (S:aP):List CK->Addr->Nat->(List Value->Prop)->Prop
 | [],_,_,K=>K []
 | c::cs,a,i,K=>gD S c (a.add i) λx=>sD S cs a (i+1) λvs=>K (c.v x::vs)
def IW (S:aP)(k:IntKind)(c:CK)(m:Option Nat)(n:Int)(K:Option c.T->Prop):Prop:=∃l,(∀h,S h->jc h m k c l)/\K (bW l n)
def PX (S:aP)(k:IntKind)(c:CK)(m:Option Nat)(K:Int->Prop):Prop:=∃l,(∀h,S h->jc h m k c l)/\K (l.length:Int)
def qS (P:Program)(S:aP)(o:Op)(ρ:Env)(K:Value->Prop):Prop:=
 match o with
 | .load t a=>wv (ev ρ a) λv=>match v,jM P t with
  | .pointer (some a),some (.one c)=>fQ (P.info? t).isSome (gD S c a λx=>K (c.v x))
  | .pointer (some a),some (.agg cs)=>fQ (P.cellsOf t==cs.length) (fQ (P.info? t).isSome (sD S cs a 0 λvs=>K (.agg vs.toArray)))
  | _,_=>False
 | .lookup t x i ok=>wv (ev ρ x) λvx=>wv (ev ρ i) λvi=>match P.underlying t,vx,vi with
  | some (.map kt et),.map m,.int k n=>match P.underlying kt,od P et,P.info? et with
   | some (.int k'),some (.one c),some ti=>match ti.zero with
    | some z=>if k=k' then mO c z λz=>IW S k c m n λo=>K (bif ok then .tuple #[c.v (o.getD z),.bool o.isSome]else c.v (o.getD z))else False
    | none=>False
   | _,_,_=>False
  | _,_,_=>False
 | .call c=>match c.callee,pa ρ c.args.toList,c.argTypes.toList with
  | .builtin .len,some [.map m],[t]=>qV P t λk c=>PX S k c m λz=>K (.int .i64 z)
  | _,_,_=>False
 | _=>False
theorem DU {S:aP}:∀{cs:List CK} {a:Addr} {i:Nat} {K:List Value->Prop},sD S cs a i K->∃vs,K vs/\∀h,S h->nc cs a i h (· = vs)
 | [],a,i,K,hk=>⟨[],hk,λh _=>rfl⟩
 | c::cs,a,i,K,⟨x,hx,hk⟩=>by
  obtain⟨vs,hK,hall⟩:=DU hk;refine⟨c.v x::vs,hK,λh b=>?_⟩;have d:nc cs a (i+1) h λus=>c.v x::us=c.v x::vs:=by
   have key:∀{cs:List CK} {i:Nat} {K K':List Value->Prop},(∀vs,K vs->K' vs)->nc cs a i h K->nc cs a i h K':=by
    intro cs
    induction cs with
    | nil=>intro i K K' hh hk;exact hh _ hk
    | cons c cs ih=>
     intro i K K' hh hk;simp only[nc]at hk ⊢;cases c<;>(obtain⟨y,g,hk⟩:=hk;exact⟨y,g,ih (λvs m=>hh _ m) hk⟩)
   exact key (λus j=>by rw[j]) (hall h b)
  simp only[nc];have e:=hx h b;cases c<;>exact⟨x,e,d⟩
theorem Pm {P:Program}{t:Nat}{K:IntKind->CK->Prop}(h:qV P t K):∃kt et k c,P.underlying t=some (.map kt et)/\P.underlying kt=some (.int k)/\od P et=some (.one c)/\K k c:=by
 unfold qV at h;split at h
 ·split at h
  ·exact⟨_,_,_,_,by assumption,by assumption,by assumption,h⟩
  ·exact h.elim
 ·exact h.elim
theorem Ie {P:Program}{S:aP}{o:Op}{ρ:Env}{K:Value->Prop}(hk:qS P S o ρ K):∃v,K v/\∀h,S h->qK P o ρ h (· = v):=by
 unfold qS at hk;split at hk
 ·obtain⟨N,r,hk⟩:=Wr hk;split at hk
  ·rename_i ad c hs;rw[Wu]at hk;obtain⟨s,x,B,b⟩:=hk;refine⟨_,b,λh d=>?_⟩;simp only[qK,r,wv,hs,Wu];refine⟨s,?_⟩;have u:=B h d;cases c<;>exact⟨x,u,rfl⟩
  ·rename_i ad cs hs;rw[Wu,Wu]at hk;obtain⟨s,D,hk⟩:=hk;obtain⟨vs,b,g⟩:=DU hk;refine⟨_,b,λh d=>?_⟩;simp only[qK,r,wv,hs,Wu];refine⟨s,D,?_⟩;have key:∀{cs:List CK} {i:Nat} {K K':List Value->Prop},(∀vs,K vs->K' vs)->nc cs ad i h K->nc cs ad i h K':=by
    intro cs
    induction cs with
    | nil=>intro i K K' hh hk;exact hh _ hk
    | cons c cs ih=>
     intro i K K' hh hk;simp only[nc]at hk ⊢;cases c<;>(obtain⟨y,F,hk⟩:=hk;exact⟨y,F,ih (λvs J=>hh _ J) hk⟩)
   exact key (λus j=>by rw[j]) (g h d)
  ·exact hk.elim
 ·obtain⟨M,B,p⟩:=Wr hk;obtain⟨Q,E,a⟩:=Wr p;clear hk p;split at a
  case h_2=>exact a.elim
  rename_i H G m k n j;split at a
  case h_2=>exact a.elim
  rename_i k' c ti hkk hs hti;split at a
  case h_2=>exact a.elim
  rename_i z hz;split at a
  case isFalse=>exact a.elim
  rename_i e;subst e;obtain⟨R,rfl,l,w,b⟩:=Vp a;refine⟨_,b,λh d=>?_⟩;simp only[qK,B,E,wv,yo,j,hkk,hs,hti,hz,zR];have L:=w h d;rw[Rx];exact⟨l,L,rfl⟩
 ·split at hk
  ·rename_i m t u r ht;obtain⟨H,G,k,c,j,C,A,l,w,b⟩:=Pm hk;refine⟨_,b,λh d=>?_⟩;simp only[qK,u,r,ht,lr,j,C,A];exact⟨l,w h d,rfl⟩
  ·exact hk.elim
 ·exact hk.elim
structure hU (ops:Array Oper) (listed:Array Bool) (D:List Nat):Prop where
 size:listed.size=ops.size
 at_:∀j,j<ops.size->listed[j]?=some (D.contains j)
 lt:∀j∈D,j<ops.size
theorem hU.getD {ops:Array Oper}{listed:Array Bool}{D:List Nat}(h:hU ops listed D){j:Nat}(hj:j<ops.size)(b:Bool):listed.getD j b=D.contains j:=by
 rw[qR,h.at_ j hj];rfl
theorem hU.mP {ops:Array Oper}{listed:Array Bool}{D:List Nat}(h:hU ops listed D)(j:Nat):listed.getD j false=D.contains j:=by
 rcases ku j ops.size with hj|hj
 ·exact h.getD hj false
 ·rw[qR,Array.getElem?_eq_none (by rw[h.size];exact hj)]
  symm
  simp only[Option.getD_none,qH,decide_eq_false_iff_not];exact λa=>by have:=h.lt j a;omega
theorem hU.start (ops:Array Oper):hU ops (Array.replicate ops.size false) []:=
 ⟨by simp,λj a=>by simp[a],λj a=>by simp at a⟩
theorem hU.cons {ops:Array Oper}{listed:Array Bool}{D:List Nat}(h:hU ops listed D){i:Nat}(hi:i<ops.size):hU ops (listed.setIfInBounds i true) (i::D):=by
 refine⟨by simp[h.size],λj a=>?_,λj a=>?_⟩
 ·by_cases hij:i=j
  ·subst hij;simp[h.size,a]
  ·rw[xJ hij,h.at_ j a];have:(j==i)=false:=by simpa using λe=>hij e.symm
   simp only[List.contains_cons,this,xd]
 ·rcases zW.1 a with rfl|h'
  ·exact hi
  ·exact h.lt j h'
def mg (ops:Array Oper)(D:List Nat)(i:Nat):Bool:=match ops[i]? with
 | none=>false
 | some o=>!D.contains i&&o.after.toList.all λe=>!Region.binds .any e||D.contains e.on
def yZ (ops:Array Oper)(D:List Nat)(i:Nat):Bool:=match ops[i]? with
 | none=>false
 | some oi=>(List.range ops.size).all λj=>Nat.beq j i||(D.contains j||match ops[j]? with
  | some oj=>oj.after.toList.any (λe=>Region.binds .any e&&Nat.beq e.on i)||oi.apart ops oj
  | none=>true)
theorem yO {ops:Array Oper}{D:List Nat}{i:Nat}(h:mg ops D i=true):i<ops.size:=by
 unfold mg at h;split at h
 ·cases h
 ·rename_i o ho;exact(j3.1 ho).1
theorem Gy {ops:Array Oper}{listed:Array Bool}{D:List Nat}(h:hU ops listed D)(i:Nat):i∈Region.ready .any ops listed↔mg ops D i=true:=by
 rw[mem_ready];unfold mg;cases ho:ops[i]? with
 | none=>simp
 | some o=>
  have d:i<ops.size:=(j3.1 ho).1;simp only[h.getD d,Option.some.injEq,exists_eq_left',zF,mj,jW,nm];constructor
  ·rintro⟨h1,h2⟩;refine⟨h1,λe b=>?_⟩;cases a:Region.binds .any e
   ·exact .inl rfl
   ·right;have:=h2 e (by simpa using b) a
    rwa [h.mP]at this
  ·rintro⟨h1,h2⟩;refine⟨h1,λe b a=>?_⟩;have:=h2 e (by simpa using b);rw[a]at this;rw[h.mP];simpa using this
theorem Hm {ops:Array Oper}{listed:Array Bool}{D:List Nat}(h:hU ops listed D){i:Nat}(hf:yZ ops D i=true):Region.free .any ops listed i=true:=by
 unfold yZ at hf;unfold Region.free;cases ho:ops[i]? with
 | none=>rw[ho]at hf;cases hf
 | some oi=>
  rw[ho]at hf;simp only[jW,zc]at hf ⊢;intro j hj;have:=hf j hj;rw[h.getD hj];simp only[nm]at this ⊢;rcases this with h1|h1|h1
  ·exact .inl (.inl (by simpa using zt h1))
  ·exact .inl (.inr h1)
  ·right;split at h1
   ·rename_i oj hoj;simp only[hoj,nm]at h1 ⊢;rcases h1 with h1|h1
    ·left;rw[j9]at h1;obtain⟨e,b,a⟩:=h1;simp only[zF]at a;rw[Array.any_eq_true'];exact⟨e,by simpa using b,by simp[a.1,zt a.2]⟩
    ·exact .inr h1
   ·rename_i hoj;simp[hoj]
inductive SH where
 | done
 | take (i:Nat) (r:SH)
 | split (c:Nat) (t f:SH)
 | all (l:List (Nat×SH))
def SH.tk:List Nat->SH->SH
 |[],s=>s
 |i::l,s=>.take i (SH.tk l s)
def Sx (sm:Bool)(S:aP)(h:Hp)(X:Prop):Prop:=match sm with
 | true=>S h/\X
 | false=>X
def shut (C D:List Nat):Bool:=C.any λk=>D.contains k
def rR (f:Nat->SH->Prop):List (Nat×SH)->Prop
 | []=>True
 | [x]=>f x.1 x.2
 | x::y::l=>f x.1 x.2/\rR f (y::l)
def VW (P:Program)(N:Nat)(ops:Array Oper)(sm:Bool)(C:List Nat)(S:aP)(K:Env->Hp->Prop):Nat->Nat->SH->List Nat->Env->Hp->Prop
 | 0,_,_,_,_,_=>False
 | n+1,_,.done,D,ρ,h=>fQ ((List.range ops.size).all λj=>D.contains j) (K ρ h)
 | n+1,m+1,.take i r,D,ρ,h=>match ops[i]? with
  | some o=>fQ (mg ops D i&&(yZ ops D i&&(pX N o.dst && !C.contains i)))
   (bif sE ops o ρ then VW P N ops sm C S K n m r (i::D) (ρ.ib o.dst undef) h
    else fQ (HW ops o ρ) (bif HO P o.op then qK P o.op ρ h λv=>VW P N ops sm C S K n m r (i::D) (ρ.ib o.dst v) h
     else fQ (sm&&((C.all λk=>wz ops k i) && !shut C D)) (qS P S o.op ρ λv=>VW P N ops sm C S K n m r (i::D) (ρ.ib o.dst v) h)))
  | none=>False
 | n+1,m,.split c t f,D,ρ,h=>VY ρ (.tmp c) λb=>If b (VW P N ops sm C S K n m t D (ρ.put c (.bool true)) h) (VW P N ops sm C S K n m f D (ρ.put c (.bool false)) h)
 | n+1,m+1,.all l,D,ρ,h=>fQ ((!l.isEmpty&&l.all λx=>Nat.blt x.1 ops.size)&&((List.range ops.size).all λj=>mg ops D j==l.any λx=>Nat.beq x.1 j))
  (rR (λi r=>match ops[i]? with
   | some o=>fQ (pX N o.dst) (bif sE ops o ρ then Sx (sm && !shut C (i::D)) S h (VW P N ops sm C S K n m r (i::D) (ρ.ib o.dst undef) h)
    else fQ (HW ops o ρ) (qN P o.op o.type ρ h λv h'=>Sx (sm && !shut C (i::D)) S h' (VW P N ops sm C S K n m r (i::D) (ρ.ib o.dst v) h')))
   | none=>False) l)
 | _,_,_,_,_,_=>False
def eO (h:Hp)(body:(Hp->Prop)->Prop):Prop:=∃S:Hp->Prop,S h/\body S
theorem EC {f:Nat->SH->Prop}:∀{l:List (Nat×SH)},rR f l->∀x∈l,f x.1 x.2
 | [],_,x,hx=>by simp at hx
 | [y],h,x,hx=>by simp at hx;subst hx;exact h
 | y::z::l,h,x,hx=>by
  rcases zW.1 hx with rfl|hx
  ·exact h.1
  ·exact EC h.2 x hx
theorem vq {ds:List Nat}{ρ ρ':Env}{ops:Array Oper}{i:Nat}{o:Oper}(ho:ops[i]?=some o){v:Value}
 (k:∀j,(ops.toList.filterMap (·.dst)).contains j=false->∀u,(ρ.ib o.dst v) j=some u->ρ' j=some u):∀j,(ops.toList.filterMap (·.dst)).contains j=false->∀u,ρ j=some u->ρ' j=some u:=by
 intro j hj u hu;refine k j hj u ?_;cases hd:o.dst with
 | none=>exact hu
 | some d=>
  simp only[Env.ib,Env.put];cases hb:Nat.beq j d
  ·exact hu
  ·have e:j=d:=zt hb;subst e;exfalso;simp only[qH,decide_eq_false_iff_not,uH,not_exists,not_and]at hj;refine hj o ?_ hd;have:=xV ho;simpa using this
def TD (S:aP)(C D:List Nat)(h:Hp):Prop:=S h\/shut C D=true
theorem TD.ts {S:aP}{C D:List Nat}{ops:Array Oper}{listed:Array Bool}{w:World}(hD:hU ops listed D)(h:TD S C D w.heap):TS (λw=>S w.heap) C listed w:=by
 refine h.imp id λa=>?_;unfold shut at a;rw[j9]at a;obtain⟨k,b,d⟩:=a;exact⟨k,b,by rw[hD.mP];exact d⟩
theorem NS {C D:List Nat}{ops:Array Oper}{listed:Array Bool}(hD:hU ops listed D)(h:shut C D=false):∀k∈C,listed.getD k false=false:=by
 intro k hk;unfold shut at h;rw[mh]at h;rw[hD.mP];simpa using h k hk
theorem Nk {C D:List Nat}{i:Nat}(h:shut C D=true):shut C (i::D)=true:=by
 unfold shut at *;rw[j9]at *;obtain⟨k,a,b⟩:=h;refine⟨k,a,?_⟩;rw[yn]at *;exact np _ b
theorem Cc {sm:Bool}{S:aP}{C D:List Nat}{h:Hp}{X:Prop}(hs:sm=false->∀h,S h)(hx:Sx (sm && !shut C D) S h X):TD S C D h/\X:=by
 cases hc:shut C D
 ·rw[hc]at hx;simp only[wL,tG]at hx;cases sm
  ·exact⟨.inl (hs rfl h),hx⟩
  ·exact⟨.inl hx.1,hx.2⟩
 ·rw[hc]at hx;simp only[Bool.not_true,tu]at hx;exact⟨.inr hc,hx⟩
theorem ZP {P:Program}{N:Nat}{ops:Array Oper}{sm:Bool}{C:List Nat}{S:aP}{K:Env->Hp->Prop}{Qn:Act->World->Prop}(hsel:Region.noSelect ops=true)(hsm:sm=false->∀h,S h):∀(n m:Nat) {sh:SH} {D:List Nat} {ρ:Env} {a:Act} {w:World} {listed:Array Bool},
 VW P N ops sm C S K n m sh D ρ w.heap->Fits N ρ a->hU ops listed D->TD S C D w.heap->(∀ρ' a' w',Fits N ρ' a'->Xb w w'->Vo ops.toList ρ ρ'->K ρ' w'.heap->Qn a' w') →
 anyS P ops (λe a w=>match e with | .normal=>Qn a w|_=>False) (λw=>S w.heap) C m listed a w
 | 0,m,sh,D,ρ,a,w,listed,h,hf,hD,hS,hK=>(by simp only[VW]at h)
 | n+1,m,.done,D,ρ,a,w,listed,h,hf,hD,hS,hK=>by
  have h':fQ ((List.range ops.size).all λj=>D.contains j) (K ρ w.heap):=by cases m<;>exact h
  rw[Wu]at h';refine RD ?_ (hK ρ a w hf (.refl _) (λ_ _ _ h=>h) h'.2) m;rw[List.eq_nil_iff_forall_not_mem];intro j hj;have B:=(Gy hD j).1 hj;have:=jW.1 h'.1 j (zc.2 (yO B));unfold mg at B;split at B
  ·cases B
  ·rw[this]at B;simp at B
 | n+1,0,.take i r,D,ρ,a,w,listed,h,hf,hD,hS,hK=>(by simp only[VW]at h)
 | n+1,m+1,.take i r,D,ρ,a,w,listed,h,hf,hD,hS,hK=>by
  simp only[VW]at h;split at h
  case h_2=>exact h.elim
  rename_i o ho;rw[Wu]at h;obtain⟨Y,h⟩:=h;simp only[zF,mj]at Y;obtain⟨Z,Q,s,U⟩:=Y;have H:=yO Z;have z:i∈Region.ready .any ops listed:=(Gy hD i).2 Z;have p:TD S C (i::D) w.heap:=hS.imp id Nk;cases hg:sE ops o ρ
  ·rw[hg]at h;simp only[cond_false]at h;rw[Wu]at h;obtain⟨M,h⟩:=h;have hw:=Ze hf M;cases hp:HO P o.op
   ·rw[hp]at h;simp only[cond_false]at h;rw[Wu]at h;obtain⟨L,h⟩:=h;simp only[zF,mj,jW]at L;obtain⟨v,J,F⟩:=Ie h;refine GX (T:=λw=>S w.heap) ho hsel (Hm hD Q) z (λ_ _ _ h=>h) U (.inr ⟨λ_ h=>h,L.2.1⟩) (.inr (NS hD L.2.2)) (v:=v) (.inl ⟨hw,λw' p=>?_⟩) (hS.ts hD) ?_
    ·obtain⟨u,B,rfl⟩:=H7 hf.ev o (F w'.heap p);exact B
    ·exact ZP hsel hsm n m J (hf.put s v) (hD.cons H) p λρ' a' w' d G E g=>hK ρ' a' w' d G (vq (ds:=[]) ho E) g
   ·rw[hp]at h;simp only[cond_true]at h;obtain⟨v,J,F⟩:=Oa hp h;refine GX (T:=λ_=>True) ho hsel (Hm hD Q) z (λ_ _ _ h=>h) U (.inl λ_=>trivial) (.inl λ_=>trivial) (v:=v) (.inl ⟨hw,λw' _=>?_⟩) (hS.ts hD) ?_
    ·obtain⟨u,B,rfl⟩:=H7 hf.ev o (F w'.heap);exact B
    ·exact ZP hsel hsm n m J (hf.put s v) (hD.cons H) p λρ' a' w' d G E g=>hK ρ' a' w' d G (vq (ds:=[]) ho E) g
  ·rw[hg]at h;simp only[cond_true]at h;refine GX (T:=λ_=>True) ho hsel (Hm hD Q) z (λ_ _ _ h=>h) U (.inl λ_=>trivial) (.inl λ_=>trivial) (v:=undef) (.inr ⟨KA hf hg,rfl⟩) (hS.ts hD) ?_;exact ZP hsel hsm n m h (hf.put s undef) (hD.cons H) p λρ' a' w' d G E g=>hK ρ' a' w' d G (vq (ds:=[]) ho E) g
 | n+1,m,.split c t f,D,ρ,a,w,listed,h,hf,hD,hS,hK=>by
  have h':VY ρ (.tmp c) λb=>If b (VW P N ops sm C S K n m t D (ρ.put c (.bool true)) w.heap) (VW P N ops sm C S K n m f D (ρ.put c (.bool false)) w.heap):=by cases m<;>exact h
  obtain⟨b,hb,aa⟩:=Kj h';have A:=λe=>aa.t e;have h2:=λe=>aa.f e;have W:ρ c=some (.bool b):=hb;have kk:∀(b':Bool),b=b'->∀ρ',Vo ops.toList (ρ.put c (.bool b')) ρ'->Vo ops.toList ρ ρ':=by
   intro b' e ρ' k i H u hu;refine k i H u ?_;simp only[Env.put];cases hic:Nat.beq i c
   ·exact hu
   ·have e2:i=c:=zt hic;subst e2;rw[W]at hu;simp only[cond_true];rw[←e];exact hu
  cases b
  ·exact ZP hsel hsm n m (h2 rfl) (hf.lit W rfl) hD hS λρ' a' w' d G E g=>hK ρ' a' w' d G (kk false rfl ρ' E) g
  ·exact ZP hsel hsm n m (A rfl) (hf.lit W rfl) hD hS λρ' a' w' d G E g=>hK ρ' a' w' d G (kk true rfl ρ' E) g
 | n+1,0,.all l,D,ρ,a,w,listed,h,hf,hD,hS,hK=>(by simp only[VW]at h)
 | n+1,m+1,.all l,D,ρ,a,w,listed,h,hf,hD,hS,hK=>by
  simp only[VW]at h;rw[Wu]at h;obtain⟨Y,h⟩:=h;simp only[zF,mj,jW,zc,zS]at Y;obtain⟨⟨hne,hlt⟩,X⟩:=Y;have hmem:∀j,j∈Region.ready .any ops listed->∃r,(j,r)∈l:=by
   intro j hj;have B:=(Gy hD j).1 hj;have:=X j (yO B);rw[B]at this;have:=j9.1 this.symm;obtain⟨x,hx,hb⟩:=this;have e:x.1=j:=zt hb;exact⟨x.2,by rw[←e];exact hx⟩
  refine Px (rs:=Region.ready .any ops listed) rfl ?_ λj hj=>?_
  ·intro hnil
   match l,hne with
   | x::l',_=>
    have hx:=Nat.blt_eq.mp (hlt x aA);have:=X x.1 hx;have hany:(x::l').any (λy=>Nat.beq y.1 x.1)=true:=j9.2 ⟨x,by simp,by simp⟩;rw[hany]at this;have:=(Gy hD x.1).2 this;rw[hnil]at this;simp at this
  ·obtain⟨r,B⟩:=hmem j hj;have A:=EC h (j,r) B;simp only at A;split at A
   case h_2=>exact A.elim
   rename_i o ho;have H:j<ops.size:=(j3.1 ho).1;rw[Wu]at A;obtain⟨s,A⟩:=A;unfold wpOp;simp only[ho];cases hg:sE ops o ρ
   ·rw[hg]at A;simp only[cond_false]at A;rw[Wu]at A;obtain⟨M,A⟩:=A;rw[zC (Ze hf M)];refine .inl (QF.upon (Uq hf.ev o A) λv w' G J=>?_);obtain⟨p,J⟩:=Cc hsm J;exact⟨p.ts (hD.cons H),ZP hsel hsm n m J (hf.put s v) (hD.cons H) p λρ' a' R d V E g=>hK ρ' a' R d (G.trans V) (vq (ds:=[]) ho E) g⟩
   ·rw[hg]at A;simp only[cond_true]at A;rw[KA hf hg];simp only[zd,zy];obtain⟨p,J⟩:=Cc hsm A;exact⟨p.ts (hD.cons H),ZP hsel hsm n m J (hf.put s undef) (hD.cons H) p λρ' a' R d V E g=>hK ρ' a' R d V (vq (ds:=[]) ho E) g⟩
def xO (P:Program)(N:Nat)(sm:Bool)(C:List Nat)(sh:SH)(ops:Array Oper)(ρ:Env)(h:Hp)(K:Env->Hp->Prop):Prop:=
 match sm with
 | true=>eO h λS=>VW P N ops true C S K 400 ops.size sh [] ρ h
 | false=>VW P N ops false C (λ_=>True) K 400 ops.size sh [] ρ h
theorem VX {P:Program}{N id:Nat}{ops:Array Oper}{sm:Bool}{C:List Nat}{sh:SH}{K:Env->Hp->Prop}{ρ:Env}{a:Act}{w:World}{Q:Exit->Act->World->Prop}
 (hm:P.follows .mixedOrders=true) (hsel:Region.noSelect ops=true) (h:xO P N sm C sh ops ρ w.heap K)
 (hf:Fits N ρ a) (hK:∀ρ' a' w',Fits N ρ' a'->Xb w w'->Vo ops.toList ρ ρ'->K ρ' w'.heap->Q .normal a' w'):(Code.region id ops true).wp P Q a w:=by
 refine wp_mono (Q:=λe a w=>match e with | .normal=>Q .normal a w|_=>False) ?_ (λe a w j=>by cases e<;>first|exact j|exact j.elim)
 have hd:Xb w {w with drawn:=w.drawn+1}:=⟨rfl,rfl,rfl,zD _⟩;cases sm
 ·exact Ux (S:=λw=>True) hm (ZP (S:=λ_=>True) (w:={w with drawn:=w.drawn+1}) (Qn:=Q .normal) hsel (λ_ _=>trivial) 400 ops.size h hf (hU.start ops) (.inl trivial) λρ' a' w' b i d g=>hK ρ' a' w' b (hd.trans i) d g)
 ·obtain⟨S,m,h⟩:=h;exact Ux hm (ZP (S:=S) (w:={w with drawn:=w.drawn+1}) (Qn:=Q .normal) hsel (λe=>by cases e) 400 ops.size h hf (hU.start ops) (.inl m) λρ' a' w' b i d g=>hK ρ' a' w' b (hd.trans i) d g)
abbrev Js:=List (Nat×SK)
def lP (js:Js):List CK:=eT (js.map (·.2))
def sy (ρ:Env):Js->Option (List Value)
 | []=>some []
 | (i,.one _)::js=>match ρ i,sy ρ js with|some v,some vs=>some (v::vs)|_,_=>none
 | (i,.agg cs)::js=>match ρ i,sy ρ js with
  | some (.agg a),some vs=>bif a.size==cs.length then some (a.toList++vs)else none
  | _,_=>none
def rr (js:Js)(ρ:Env)(J:eR (lP js))(h:Hp):Prop:=match sy ρ js with
 | some vs=>rj (lP js) J vs h
 | none=>False
def im:Env->Js->List Value->Env
 | ρ,[],_=>ρ
 | ρ,(i,.one _)::js,v::vs=>im (ρ.put i v) js vs
 | ρ,(i,.one _)::js,[]=>im ρ js []
 | ρ,(i,.agg cs)::js,vs=>im (ρ.put i (.agg (vs.take cs.length).toArray)) js (vs.drop cs.length)
def Jn (ks:List CK)(K:eR ks)(body:eR ks->Prop):Prop:=∃J:eR ks,eR.le ks J K/\body J
theorem eR.le_refl:∀(ks:List CK) (R:eR ks),eR.le ks R R
 | [],_=>λ_ h=>h
 | _::cs,_=>λ_=>eR.le_refl cs _
theorem Jn.intro {ks:List CK}{K:eR ks}{body:eR ks->Prop}(h:body K):Jn ks K body:=⟨K,eR.le_refl ks K,h⟩
def lU (ds:List Nat)(i:Nat):Bool:=ds.contains i
def KF (ds:List Nat)(ρ ρ':Env):Prop:=∀i,ds.contains i=false->∀v,ρ i=some v->ρ' i=some v
theorem KF.trans {d1 d2:List Nat}{a b c:Env}(h:KF d1 a b)(k:KF d2 b c):KF (d1++d2) a c:=by
 intro i hi v hv;simp only[qH,zK,decide_eq_false_iff_not,not_or]at hi;exact k i (by simpa using hi.2) v (h i (by simpa using hi.1) v hv)
theorem KF.mono {d1 d2:List Nat}{a b:Env}(h:KF d1 a b)(hs:∀i,i∈d1->i∈d2):KF d2 a b:=by
 intro i hi v hv;refine h i ?_ v hv;simp only[qH,decide_eq_false_iff_not]at hi ⊢;exact λd=>hi (hs i d)
theorem KF.refl (ds:List Nat)(a:Env):KF ds a a:=λ_ _ _ h=>h
theorem Kf (ds:List Nat):∀(js:Js) (ρ:Env) (vs:List Value),(js.all λs=>lU ds s.1)=true->KF ds ρ (im ρ js vs)
 | [],ρ,vs,_=>by simp only[im];exact .refl _ _
 | (i,.one c)::js,ρ,[],h=>by
  simp only[uu,zF]at h;simp only[im];exact Kf ds js ρ [] h.2
 | (i,.one c)::js,ρ,v::vs,h=>by
  simp only[uu,zF]at h;simp only[im];intro j hj u hu;refine Kf ds js _ vs h.2 j hj u ?_;simp only[Env.put];cases hb:Nat.beq j i
  ·exact hu
  ·have e:j=i:=zt hb;subst e;simp only[lU]at h;rw[hj]at h;cases h.1
 | (i,.agg cs)::js,ρ,vs,h=>by
  simp only[uu,zF]at h;simp only[im];intro j hj u hu;refine Kf ds js _ _ h.2 j hj u ?_;simp only[Env.put];cases hb:Nat.beq j i
  ·exact hu
  ·have e:j=i:=zt hb;subst e;simp only[lU]at h;rw[hj]at h;cases h.1
theorem Q7 {N:Nat}:∀(js:Js) {ρ ρ':Env} {a:Act} {vs:List Value},Fits N ρ a->Fits N ρ' a->sy ρ' js=some vs->Fits N (im ρ js vs) a
 | [],ρ,ρ',a,vs,h,_,_=>h
 | (i,.one c)::js,ρ,ρ',a,vs,h,h',hv=>by
  simp only[sy]at hv;split at hv
  ·rename_i v vs' h1 h2;cases hv;simp only[im];refine Q7 js ⟨h.defers,h.size,λj u hu=>?_⟩ h' h2;simp only[Env.put]at hu;cases hb:Nat.beq j i
   ·rw[hb]at hu;exact h.at_ j u hu
   ·have e:j=i:=zt hb;subst e;rw[hb]at hu;simp only[cond_true,Option.some.injEq]at hu;subst hu;exact h'.at_ j _ h1
  ·cases hv
 | (i,.agg cs)::js,ρ,ρ',a,vs,h,h',hv=>by
  simp only[sy]at hv;split at hv
  ·rename_i ar vs' h1 h2;cases hs:(ar.size==cs.length)
   ·rw[hs]at hv;cases hv
   ·rw[hs]at hv;simp only[cond_true,Option.some.injEq]at hv;subst hv;have b:ar.toList.length=cs.length:=by simpa using hs
    simp only[im];rw[←b,List.take_left,List.drop_left];refine Q7 js ⟨h.defers,h.size,λj u hu=>?_⟩ h' h2;simp only[Env.put]at hu;cases hb:Nat.beq j i
    ·rw[hb]at hu;exact h.at_ j u hu
    ·have e:j=i:=zt hb;subst e;rw[hb]at hu;simp only[cond_true,Option.some.injEq]at hu;subst hu;simpa using h'.at_ j _ h1
  ·cases hv
theorem Uy {js:Js}{ρ:Env}{J:eR (lP js)}{h:Hp}(hj:rr js ρ J h):∃vs,sy ρ js=some vs/\Sat (lP js) J vs h:=by
 unfold rr at hj;split at hj
 ·exact⟨_,by assumption,UI hj⟩
 ·exact hj.elim
theorem Vt {N:Nat}{ds:List Nat}{ρ ρ':Env}{a:Act}(h:Fits N ρ' a)(k:KF ds ρ ρ'):Fits N (ρ.dT ds) a:=by
 refine h.weaken λi v b=>?_;simp only[Env.dT]at b;cases hc:ds.contains i
 ·rw[hc]at b;exact k i hc v b
 ·rw[hc]at b;cases b
theorem Uh (ds:List Nat)(ρ:Env):KF ds ρ (ρ.dT ds):=by
 intro i hi v hv;simp only[Env.dT,hi];exact hv
def xm:Op->Bool
 | .pick .. => true
 | _=>false
def kf (os:List Oper):Bool:=os.all λo=>sB o.op||xm o.op
theorem Vw {P:Program}{N:Nat}{ops:Array Oper}{Q:Act->Prop}{w:World}:∀(n:Nat) {hs:List RI} {os:List Oper} {tail:List Oper} {ρ:Env} {a:Act} {K:Env->Hp->Prop},
 eC P N ops n hs os ρ w.heap K->kf os=true->Fits N ρ a->(∀ρ' a',Fits N ρ' a'->Vo os ρ ρ'->K ρ' w.heap->wpStill P ops w Q tail a')->wpStill P ops w Q (os++tail) a
 | 0,_,_,_,_,_,_,h,_,_,_=>(by simp only[eC]at h)
 | n+1,[],[],tail,ρ,a,K,h,hq,hf,hK=>by
  simp only[eC]at h;exact hK ρ a hf (λ_ _ _ h=>h) h
 | n+1,[],o::os,tail,ρ,a,K,h,hq,hf,hK=>(by simp only[eC]at h)
 | n+1,.op::hs,[],tail,ρ,a,K,h,hq,hf,hK=>(by simp only[eC]at h)
 | n+1,.it ki c::hs,[],tail,ρ,a,K,h,hq,hf,hK=>(by simp only[eC]at h)
 | n+1,.it ki c::hs,o::os,tail,ρ,a,K,h,hq,hf,hK=>by
  simp only[eC]at h;rw[Wu]at h;simp only[kf,uu,zF,nm]at hq;have h2:=h.2;unfold wZ at h2;split at h2
  ·rename_i heq;rw[heq]at hq;simp[sB,xm]at hq
  ·rename_i heq;rw[heq]at hq;simp[sB,xm]at hq
  ·exact h2.elim
 | n+1,.op::hs,o::os,tail,ρ,a,K,h,hq,hf,hK=>by
  simp only[eC]at h;rw[Wu]at h;obtain⟨C,h⟩:=h;simp only[zF]at C;have Z:=Ze hf C.1;simp only[kf,uu,zF,nm]at hq;have Y:sB o.op=true:=by
   rcases hq.1 with h1|h1
   ·exact h1
   ·unfold xm at h1;split at h1
    ·rename_i heq;rw[heq];rfl
    ·cases h1
  unfold qN at h;rw[Y]at h;obtain⟨v,R,B⟩:=H7 hf.ev o h;simp only[kW,wpStill,Z,zR,Oper.still,R,Oper.stillUpon];exact⟨trivial,Vw n B (by simpa[kf]using hq.2) (hf.put C.2 v) λρ' a' g E u=>hK ρ' a' g E.cons u⟩
 | n+1,.cU and m inner::hs,os,tail,ρ,a,K,h,hq,hf,hK=>by
  simp only[eC]at h;split at h
  case h_2=>exact h.elim
  rename_i pk rest hdrop;split at h
  case h_2=>exact h.elim
  rename_i c x y d hop hd;split at h
  case h_2=>exact h.elim
  rename_i b hb;rw[Wu]at h;obtain⟨C,J,hJ,h⟩:=h;simp only[zF]at C;obtain⟨X,H,ac,S,A⟩:=C;have V:os++tail=os.take m++(pk::rest++tail):=by
   rw[←hdrop,←zz,nu]
  have U:kf (os.take m)=true:=by
   rw[kf,jW]at hq ⊢;exact λo M=>hq o (vS M)
  have ad:kf rest=true:=by
   rw[kf,jW]at hq ⊢;exact λo M=>hq o (sd (i:=m) (by rw[hdrop];exact np _ M))
  rw[V];have j:∀(r b':Bool) (z:Operand) a',b=b'->(bif b' then x else y)=z->Fits N (ρ.dT ((os.take m).filterMap (·.dst))) a'->J r w.heap->Region.wanted pk (yielded ops a'.tmps)=true →
   a'.eval (.tmp c)=.bool b'->a'.eval z=.bool r->wpStill P ops w Q (pk::rest++tail) a':=by
   intro r b' z a' e ez g G Z s hez;have D:(execOp a'.eval pk).run P w=.ok (.value (.bool r)) w:=by
    obtain⟨dst,op,ty,pos,aft,W⟩:=pk;simp only at hop;subst hop;subst ez;cases b'<;>simp at hez<;>simp[execOp,s,asBool,hez]
   simp only[kW,wpStill,Z,zR,Oper.still,D,Oper.stillUpon];have ab:=g.put (d:=some d) X (.bool r);rw[hd];exact⟨trivial,Vw n (hJ _ _ G) ad ab λρ' ae L E u=>hK ρ' ae L (Vo.cU hd hdrop E) u⟩
  have run:∀(b':Bool) (z:Operand),b=b'->(bif b' then x else y)=z →
   eC P N ops n inner (os.take m) (ρ.put c (.bool b')) w.heap (λρ' h'=>fQ (HW ops pk ρ'&&rm ρ' c b') (VY ρ' z λr=>J r h'))->wpStill P ops w Q (os.take m++(pk::rest++tail)) a:=by
   intro b' z e ez hseg;refine Vw n hseg U (hf.lit hb e) λρ' a' g E B=>?_;rw[Wu]at B;simp only[zF]at B;obtain⟨⟨hg,aa⟩,B⟩:=B;obtain⟨r,R,G⟩:=Kj B;exact j r b' z a' e ez (g.uo hb e E) G (Ze g hg) (g.ev _ _ (Uj aa)) (g.ev _ _ R)
  have p:∀(b':Bool),b=b'->b' = !and->J (!and) w.heap->wpStill P ops w Q (os.take m++(pk::rest++tail)) a:=by
   intro b' e eb G;subst eb;refine Ec A (hf.lit hb e) λa' g=>?_;have F:Fits N (ρ.dT ((os.take m).filterMap (·.dst))) a':=g.uo (ρ':=(ρ.put c (.bool (!and))).dT ((os.take m).filterMap (·.dst))) hb e (λi hi v hv=>by simp only[Env.dT,hi];exact hv);have s:=g.ev (.tmp c) _ (Uj S);refine j (!and) (!and) (bif (!and)then x else y) a' e rfl F G (Ze F ac) s ?_;refine yx ?_ _ (λv=>rfl);cases and<;>exact H
  cases and
  ·simp only[cond_false]at h;cases b
   ·exact run false y rfl rfl (h.f rfl)
   ·exact p true rfl rfl (h.t rfl)
  ·simp only[cond_true]at h;cases b
   ·exact p false rfl rfl (h.f rfl)
   ·exact run true x rfl rfl (h.t rfl)
inductive RH where
 | seq (hs:List RI)
 | quiet (hs:List RI)
 | tail (n:Nat) (hs1 hs2:List RI)
 | held (sm:Bool) (C:List Nat) (sh:SH)
 | hO (sm:Bool) (C:List Nat) (js:Js) (sh:SH)
def tU (ops:Array Oper):List Nat:=ops.toList.filterMap (·.dst)
def mo (P:Program)(N:Nat)(r:RH)(ops:Array Oper)(draw:Bool)(ρ:Env)(h:Hp)(K:Env->Hp->Prop):Prop:=
 match r,draw with
 | .seq hs,false=>eC P N ops 400 hs ops.toList ρ h K
 | .quiet hs,true=>fQ (P.follows .mixedOrders&&(Region.lexB .any ops&&kf ops.toList)) (eC P N ops 400 hs ops.toList ρ h K)
 | .tail n hs1 hs2,true=>fQ (P.follows .mixedOrders&&(Region.lexTailB .any ops n&&kf (ops.toList.take n)))
  (eC P N ops 400 hs1 (ops.toList.take n) ρ h λρ' h'=>eC P N ops 400 hs2 (ops.toList.drop n) ρ' h' K)
 | .held sm C sh,true=>fQ (P.follows .mixedOrders&&Region.noSelect ops) (xO P N sm C sh ops ρ h K)
 | .hO sm C js sh,true=>fQ (P.follows .mixedOrders&&(Region.noSelect ops&&js.all λs=>lU (tU ops) s.1))
  (Jn (lP js) (lam (lP js) λvs h'=>K (im (ρ.dT (tU ops)) js vs) h') λJ=>xO P N sm C sh ops ρ h λρ' h'=>rr js ρ' J h')
 | _,_=>False
theorem Cy {P:Program}{N id:Nat}{r:RH}{ops:Array Oper}{draw:Bool}{ρ:Env}{a:Act}{w:World}{K:Env->Hp->Prop}{Q:Exit->Act->World->Prop}
 (h:mo P N r ops draw ρ w.heap K) (hf:Fits N ρ a) (hK:∀ρ' a' w',Fits N ρ' a'->Xb w w'->Vo ops.toList ρ ρ'->K ρ' w'.heap->Q .normal a' w'):(Code.region id ops draw).wp P Q a w:=by
 unfold mo at h;split at h
 ·rename_i B;refine wp_region_list ?_;have:=Kd (Q:=Q) (tail:=[]) 400 h hf λρ' a' w' d m g j=>hK ρ' a' w' d m g j;simpa using this
 ·rename_i B;rw[Wu]at h;simp only[zF]at h;obtain⟨⟨p,H,D⟩,h⟩:=h;refine wp_region_still p H ?_;have:=Vw (w:={w with drawn:=w.drawn+1}) (Q:=λa'=>Q .normal a' {w with drawn:=w.drawn+1}) (tail:=[]) 400 h D hf λρ' a' d g j=>hK ρ' a' _ d ⟨rfl,rfl,rfl,zD _⟩ g j;simpa using this
 ·rename_i n hs1 hs2;rw[Wu]at h;simp only[zF]at h;obtain⟨⟨p,H,D⟩,h⟩:=h;obtain⟨l,rfl⟩:∃l:List Oper,ops=l.toArray:=⟨ops.toList,by simp⟩;refine wp_region_still_tail n p H ?_;have:=Vw (w:={w with drawn:=w.drawn+1}) (ops:=l.toArray) (Q:=λa'=>wpList P l.toArray Q (l.drop n) a' {w with drawn:=w.drawn+1}) (tail:=[]) 400 h (by simpa using D) hf (λρ' a' d g j=>by
   have:=Kd (Q:=Q) (tail:=[]) (w:={w with drawn:=w.drawn+1}) 400 j d λA G C u m y F=>hK A G C u (Xb.trans (b:={w with drawn:=w.drawn+1}) ⟨rfl,rfl,rfl,zD _⟩ m) (λi e v z=>?_) F
   ·simpa[wpStill]using this
   ·rw[show l.toArray.toList=l.take n++l.drop n by simp,uP]at e;simp only[qH,zK,decide_eq_false_iff_not,not_or]at e;exact y i (by simpa using e.2) v (g i (by simpa using e.1) v z))
  simpa using this
 ·rename_i sm sh;rw[Wu]at h;simp only[zF]at h;exact VX h.1.1 h.1.2 h.2 hf hK
 ·rename_i sm js sh;rw[Wu]at h;simp only[zF]at h;obtain⟨⟨p,s,E⟩,J,L,h⟩:=h;refine VX p s h hf λρ' a' w' d m g j=>?_;obtain⟨vs,z,B⟩:=Uy j;have x:=VB (B.mono L);refine hK _ a' w' (Q7 js (Vt d g) d z) m ?_ x;exact((Uh (tU ops) ρ).trans (Kf (tU ops) js (ρ.dT (tU ops)) vs E)).mono λi e=>by
   simp only[zK]at e;rcases e with h|h<;>exact h
 ·exact h.elim
def fL:Code->List Nat
 | .region _ ops _=>tU ops
 | .seq a b=>fL a++fL b
 | .cond _ a b=>fL a++fL b
 | .block _ b=>fL b
 | .loop b=>fL b
 | .scope b=>fL b
 | _=>[]
def HL:(ks:List CK)->eR ks->oF ks->(Nat->Prop)->eR ks
 | [],I,μ,p=>λh=>I h/\p (μ h)
 | c::cs,I,μ,p=>λx=>HL cs (I x) (μ x) p
def Yp (ks:List CK)(start:eR ks->Prop)(round:eR ks->eR ks):Prop:=
 ∃(I:eR ks) (μ:oF ks),start I/\∀m:Nat,eR.le ks (HL ks I μ (· = m)) (round (HL ks I μ (· < m)))
inductive Hn where
 | leaf
 | cR (r:RH)
 | seq (a b:Hn)
 | kr (js:Js) (a b:Hn)
 | cond (a b:Hn)
 | block (b:Hn)
 | loop (js:Js) (b:Hn)
 | scope (b:Hn)
def RI.ops:Nat->List RI
 | 0=>[]
 | n+1=>.op::RI.ops n
abbrev Hn.l:Hn:=.leaf
abbrev Hn.q (a b:Hn):Hn:=.seq a b
abbrev Hn.c (a b:Hn):Hn:=.cond a b
abbrev Hn.k (a:Hn):Hn:=.block a
def Hn.o (n:Nat):Hn:=.cR (.seq (RI.ops n))
abbrev Hn.o1:Hn:=.o 1
abbrev Hn.o2:Hn:=.o 2
abbrev Hn.aJ:Hn:=.c (.q .o2 .l) .l
abbrev Hn.aK:Hn:=.c (.q .o1 .l) .l
abbrev Hn.aL:Hn:=.q .o2 .l
abbrev Hn.aM:Hn:=.q .o1 .l
abbrev Hn.o3:Hn:=.o 3
abbrev Hn.o4:Hn:=.o 4
abbrev Hn.o5:Hn:=.o 5
abbrev Hn.o6:Hn:=.o 6
abbrev Hn.o7:Hn:=.o 7
abbrev Hn.o8:Hn:=.o 8
abbrev Hn.o9:Hn:=.o 9
abbrev Hn.gQ:Hn:=.o 10
def Hn.oq (n:Nat):Hn:=.cR (.quiet (RI.ops n))
def uw (next:Env->Hp->Prop)(Q:Exit->Env->Hp->Prop):Exit->Env->Hp->Prop
 | .normal,ρ,h=>next ρ h
 | e,ρ,h=>Q e ρ h
def wk (id:Nat)(Q:Exit->Env->Hp->Prop):Exit->Env->Hp->Prop
 | .exit i,ρ,h=>match Nat.beq i id with
  | true=>Q .normal ρ h
  | false=>Q (.exit i) ρ h
 | e,ρ,h=>Q e ρ h
def R3 (Q:Exit->Env->Hp->Prop):Exit->Env->Hp->Prop
 | .goto _,_,_=>False
 | e,ρ,h=>Q e ρ h
def iz (P:Program)(N:Nat):Code->Hn->(Exit->Env->Hp->Prop)->Env->Hp->Prop
 | .skip,_,Q,ρ,h=>Q .normal ρ h
 | .ret,_,Q,ρ,h=>Q .ret ρ h
 | .exit id,_,Q,ρ,h=>Q (.exit id) ρ h
 | .region _ ops d,.cR r,Q,ρ,h=>mo P N r ops d ρ h λρ' h'=>Q .normal ρ' h'
 | .seq a b,.seq x y,Q,ρ,h=>iz P N a x (uw (λρ' h'=>iz P N b y Q ρ' h') Q) ρ h
 | .seq a b,.kr js x y,Q,ρ,h=>fQ (js.all λs=>lU (fL a) s.1)
  (Jn (lP js) (lam (lP js) λvs h'=>iz P N b y Q (im (ρ.dT (fL a)) js vs) h') λJ=>iz P N a x (uw (λρ' h'=>rr js ρ' J h') Q) ρ h)
 | .cond c a b,.cond x y,Q,ρ,h=>VY ρ c λt=>If t (iz P N a x Q ρ h) (iz P N b y Q ρ h)
 | .block id b,.block x,Q,ρ,h=>iz P N b x (wk id Q) ρ h
 | .scope b,.scope x,Q,ρ,h=>iz P N b x (R3 Q) ρ h
 | .label _,_,Q,ρ,h=>Q .normal ρ h
 | .loop b,.loop js x,Q,ρ,h=>fQ (js.all λs=>lU (fL b) s.1)
  (Yp (lP js) (λI=>rr js ρ I h) λJ=>lam (lP js) λvs h'=>iz P N b x (uw (λρ' h''=>rr js ρ' J h'') Q) (im (ρ.dT (fL b)) js vs) h')
 | _,_,_,_,_=>False
theorem Hi:∀{ks:List CK} {I:eR ks} {μ:oF ks} {p:Nat->Prop} {vs:List Value} {h:Hp},Sat ks (HL ks I μ p) vs h->∃n,p n/\Sat ks (HL ks I μ (· = n)) vs h
 | [],I,μ,p,[],h,hs=>⟨μ h,hs.2,hs.1,rfl⟩
 | c::cs,I,μ,p,v::vs,h,⟨x,e,hs⟩=>by
  obtain⟨n,hp,hn⟩:=Hi (I:=I x) (μ:=μ x) hs;exact⟨n,hp,x,e,hn⟩
 | [],I,μ,p,_::_,h,hs=>hs.elim
 | _::_,I,μ,p,[],h,hs=>hs.elim
theorem UH:∀{ks:List CK} {I:eR ks} (μ:oF ks) {vs:List Value} {h:Hp},Sat ks I vs h->∃n,Sat ks (HL ks I μ (· = n)) vs h
 | [],I,μ,[],h,hs=>⟨μ h,hs,rfl⟩
 | c::cs,I,μ,v::vs,h,⟨x,e,hs⟩=>by
  obtain⟨n,hn⟩:=UH (I:=I x) (μ x) hs;exact⟨n,x,e,hn⟩
 | [],I,μ,_::_,h,hs=>hs.elim
 | _::_,I,μ,[],h,hs=>hs.elim
theorem Bc {p:Nat->Prop}(h:∃n,p n):∃n,p n/\∀m,p m->n<=m:=by
 obtain⟨n,d⟩:=h
 induction n using Nat.strongRecOn with
 | _ n ih=>
  by_cases hm:∃m,m<n/\p m
  ·obtain⟨m,a,b⟩:=hm;exact ih m a b
  ·exact⟨n,d,λm b=>Nat.le_of_not_lt λa=>hm ⟨m,a,b⟩⟩
open Classical in
noncomputable def tB (p:Nat->Prop):Nat:=if h:∃n,p n then(Bc h).choose else 0
theorem Cu {p:Nat->Prop}(h:∃n,p n):p (tB p):=by
 unfold tB;rw[dif_pos h];exact(Bc h).choose_spec.1
theorem EM {p:Nat->Prop}{n:Nat}(h:p n):tB p<=n:=by
 unfold tB;rw[dif_pos ⟨n,h⟩];exact(Bc ⟨n,h⟩).choose_spec.2 n h
theorem RL {P:Program}{c:Code}{Q:Exit->Act->World->Prop}{a:Act}{w:World}(I:Nat->Act->World->Prop)(h0:∃n,I n a w)
 (round:∀n a w,I n a w->c.wp P (Exit.then (λa' w'=>∃m,m<n/\I m a' w') Q) a w):(Code.loop c).wp P Q a w:=by
 refine wp_loop (λa w=>∃n,I n a w) (λa w=>tB λn=>I n a w) h0 λa w g=>?_;refine wp_mono (round _ a w (Cu g)) λe a' w' d=>?_;cases e<;>try exact d
 obtain⟨m,i,b⟩:=d;exact⟨⟨m,b⟩,yI (EM b) i⟩
theorem Qh {P:Program}{N:Nat}:∀(c:Code) {x:Hn} {Q:Exit->Env->Hp->Prop} {Q':Exit->Act->World->Prop} {ρ:Env} {a:Act} {w:World},
 iz P N c x Q ρ w.heap->Fits N ρ a->(∀e ρ' a' w',Fits N ρ' a'->Xb w w'->KF (fL c) ρ ρ'->Q e ρ' w'.heap->Q' e a' w')->c.wp P Q' a w
 | .skip,x,Q,Q',ρ,a,w,h,hf,hq=>by
  have h':Q .normal ρ w.heap:=by cases x<;>exact h
  exact wp_skip (hq _ ρ a w hf (.refl _) (.refl _ _) h')
 | .ret,x,Q,Q',ρ,a,w,h,hf,hq=>by
  have h':Q .ret ρ w.heap:=by cases x<;>exact h
  exact wp_ret (hq _ ρ a w hf (.refl _) (.refl _ _) h')
 | .exit id,x,Q,Q',ρ,a,w,h,hf,hq=>by
  have h':Q (.exit id) ρ w.heap:=by cases x<;>exact h
  exact wp_exit (hq _ ρ a w hf (.refl _) (.refl _ _) h')
 | .region id ops d,x,Q,Q',ρ,a,w,h,hf,hq=>by
  cases x<;>simp only[iz]at h
  exact Cy h hf λρ' a' w' b p r g=>hq _ ρ' a' w' b p r g
 | .seq c1 c2,x,Q,Q',ρ,a,w,h,hf,hq=>by
  cases x<;>simp only[iz]at h
  case seq x y=>
   refine wp_seq (Qh c1 h hf λe ρ' a' w' b p r g=>?_);cases e
   case normal=>exact Qh c2 g b λe ρ'' A z j u D E=>hq e ρ'' A z j (p.trans u) (r.trans D) E
   all_goals exact hq _ ρ' a' w' b p (r.mono λi s=>ke _ s) g
  case kr js x y=>
   rw[Wu]at h;obtain⟨F,J,W,h⟩:=h;refine wp_seq (Qh c1 h hf λe ρ' a' w' b p r g=>?_);cases e
   case normal=>
    obtain⟨vs,R,H⟩:=Uy g;have C:=VB (H.mono W);have K:=Q7 js (Vt b r) b R;refine Qh c2 C K λe ρ'' A z j u D E=>hq e ρ'' A z j (p.trans u) ?_ E;have Z:=(Uh (fL c1) ρ).trans (Kf (fL c1) js (ρ.dT (fL c1)) vs F);exact(Z.trans D).mono λi s=>by
     simp only[fL,zK]at s ⊢;rcases s with(h|h)|h
     ·exact Or.inl h
     ·exact Or.inl h
     ·exact Or.inr h
   all_goals exact hq _ ρ' a' w' b p (r.mono λi s=>ke _ s) g
 | .cond c c1 c2,x,Q,Q',ρ,a,w,h,hf,hq=>by
  cases x<;>simp only[iz]at h
  obtain⟨t,Y,h⟩:=Kj h;refine wp_cond_split (hf.ev _ _ Y) (λe=>?_) (λe=>?_)
  ·exact Qh c1 (h.t e) hf λe ρ' a' w' b p r g=>hq e ρ' a' w' b p (r.mono λi s=>ke _ s) g
  ·exact Qh c2 (h.f e) hf λe ρ' a' w' b p r g=>hq e ρ' a' w' b p (r.mono λi s=>nI _ s) g
 | .block id c1,x,Q,Q',ρ,a,w,h,hf,hq=>by
  cases x<;>simp only[iz]at h
  refine wp_block (Qh c1 h hf λe ρ' a' w' b p r g=>?_);cases e
  case exit i=>
   simp only[wk]at g;simp only[Exit.inBlock];split at g
   ·rename_i e;have L:i=id:=zt e;rw[zC L];exact hq _ ρ' a' w' b p r g
   ·rename_i e;have L:i≠id:=λh=>by subst h;simp at e
    rw[zB L];exact hq _ ρ' a' w' b p r g
  all_goals exact hq _ ρ' a' w' b p r g
 | .loop c1,x,Q,Q',ρ,a,w,h,hf,hq=>by
  cases x<;>simp only[iz]at h
  rename_i js x;rw[Wu]at h;obtain⟨F,I,μ,H,V⟩:=h;refine RL (λn a' w'=>∃vs,Fits N (im (ρ.dT (fL c1)) js vs) a'/\Xb w w'/\Sat (lP js) (HL (lP js) I μ (· = n)) vs w'.heap) ?_ ?_
  ·obtain⟨vs,R,H⟩:=Uy H;obtain⟨n,U⟩:=UH μ H;exact⟨n,vs,Q7 js (hf.weaken (GG _ _)) hf R,.refl _,U⟩
  ·rintro n a' w' ⟨vs,b,p,U⟩;have:=VB (U.mono (V n));have X:=(Uh (fL c1) ρ).trans (Kf (fL c1) js (ρ.dT (fL c1)) vs F);refine Qh c1 this b λe ρ'' A z j u r g=>?_;have B:KF (fL c1) ρ ρ'':=(X.trans r).mono λi s=>by
    simp only[zK]at s;rcases s with(h|h)|h<;>exact h
   cases e
   case normal=>
    obtain⟨M,S,C⟩:=Uy g;obtain⟨m,hm,G⟩:=Hi C;exact⟨m,hm,M,Q7 js (Vt j B) j S,p.trans u,G⟩
   all_goals exact hq _ ρ'' A z j (p.trans u) B g
 | .scope c1,x,Q,Q',ρ,a,w,h,hf,hq=>by
  cases x<;>simp only[iz]at h
  refine wp_scope_straight (Qh c1 h hf λe ρ' a' w' b p r g=>?_);cases e
  case goto l=>exact g.elim
  all_goals exact hq _ ρ' a' w' b p r g
 | .label l,x,Q,Q',ρ,a,w,h,hf,hq=>by
  have h':Q .normal ρ w.heap:=by cases x<;>exact h
  exact wp_label (hq _ ρ a w hf (.refl _) (.refl _ _) h')
 | .rangeFunc ..,x,Q,Q',ρ,a,w,h,hf,hq=>(by cases x<;>simp only[iz]at h)
 | .goto ..,x,Q,Q',ρ,a,w,h,hf,hq=>(by cases x<;>simp only[iz]at h)
 | .refuse ..,x,Q,Q',ρ,a,w,h,hf,hq=>(by cases x<;>simp only[iz]at h)
def oT (P:Program)(r:ResultVar)(s:SK)(ρ:Env)(h:Hp)(K:List Value->Prop):Prop:=
 match r,s with
 | .tmp t,.one _=>wv (ρ t) λv=>K [v]
 | .tmp t,.agg cs=>wv (ρ t) λv=>match v with
  | .agg a=>fQ (a.size==cs.length) (K a.toList)
  | _=>False
 | .cell a t,.one c=>wv (ρ a) λv=>match v,jM P t with
  | .pointer (some ad),some (.one _)=>xK c ad h λx=>K [c.v x]
  | _,_=>False
 | .cell a t,.agg cs=>wv (ρ a) λv=>match v,jM P t with
  | .pointer (some ad),some (.agg _)=>fQ (P.cellsOf t==cs.length&&(P.info? t).isSome) (nc cs ad 0 h λvs=>K vs)
  | _,_=>False
def lE (P:Program):List ResultVar->List SK->Env->Hp->(List Value->Prop)->Prop
 | [],[],_,_,K=>K []
 | r::rs,s::ss,ρ,h,K=>oT P r s ρ h λvs=>lE P rs ss ρ h λus=>K (vs++us)
 | _,_,_,_,_=>False
def oh (P:Program)(fn:Func)(rs:List SK)(R:eR (eT rs)):Exit->Env->Hp->Prop
 | .normal,ρ,h=>lE P fn.results.toList rs ρ h λvs=>rj (eT rs) R vs h
 | .ret,ρ,h=>lE P fn.results.toList rs ρ h λvs=>rj (eT rs) R vs h
 | _,_,_=>False
def HP (vs:List Value):Env:=λi=>vs[i]?
def CX (P:Program)(fn:Func)(x:Hn)(args:List Value)(rs:List SK)(R:eR (eT rs))(h:Hp):Prop:=
 match fn.body with
 | some c=>fQ (Nat.ble args.length fn.ntmps) (iz P fn.ntmps c x (oh P fn rs R) (HP args) h)
 | none=>False
def UC:SK->List Value->Value
 | .one _,[v]=>v
 | .one _,_=>undef
 | .agg _,vs=>.agg vs.toArray
def G0 (tmps:Array Value):ResultVar->Sem Value
 | .tmp t=>pure (tmps.getD t undef)
 | .cell b t=>do loadVar t (←asAddr (tmps.getD b undef))
theorem Ri (fn:Func)(tmps:Array Value):results fn tmps=(do
 let vs ←fn.results.mapM (G0 tmps)
 pure (if h:vs.size=1 then vs[0]else .tuple vs)):=by
 unfold results
 congr 1
theorem JP {P:Program}{r:ResultVar}{s:SK}{ρ:Env}{K:List Value->Prop}{a:Act}{N:Nat}{w:World}(hf:Fits N ρ a)(h:oT P r s ρ w.heap K) :
 ∃vs,vs.length=s.ks.length/\K vs/\(G0 a.tmps r).run P w=.ok (UC s vs) w:=by
 unfold oT at h;split at h
 ·rename_i t c;obtain⟨v,g,e⟩:=Wr h;refine⟨[v],rfl,e,?_⟩;simp[G0,qR,hf.at_ _ _ g,UC]
 ·rename_i t cs;obtain⟨v,g,e⟩:=Wr h;split at e
  ·rename_i ar;rw[Wu]at e;refine⟨ar.toList,by simpa[SK.ks]using e.1,e.2,?_⟩;simp[G0,qR,hf.at_ _ _ g,UC]
  ·exact e.elim
 ·rename_i b t c;obtain⟨v,g,e⟩:=Wr h;split at e
  ·rename_i ad c' hs;obtain⟨d,hd,i⟩:=DP hs;obtain⟨x,u,e⟩:=Bn e;refine⟨[c.v x],rfl,e,?_⟩;simp only[G0,qR,hf.at_ _ _ g,pC,asAddr,Sem.run_bind,Sem.run_pure,Result.andThen_ok,loadVar,KB hd,i,UC];simpa using AX u
  ·exact e.elim
 ·rename_i b t cs;obtain⟨v,g,e⟩:=Wr h;split at e
  ·rename_i ad cs' hs;rw[Wu]at e;obtain⟨j,e⟩:=e;simp only[zF,zS]at j;obtain⟨d,hd,i⟩:=Ff hs;obtain⟨vs,m,e,p⟩:=G5 (P:=P) e;refine⟨vs,m,e,?_⟩;simp only[G0,qR,hf.at_ _ _ g,pC,asAddr,Sem.run_bind,Sem.run_pure,Result.andThen_ok,loadVar,KB hd,i,zR,QA j.2,loadCells,j.1,p,UC];simp
  ·exact e.elim
theorem Dz {P:Program}{ρ:Env}{a:Act}{N:Nat}{w:World}(hf:Fits N ρ a):∀{rv:List ResultVar} {rs:List SK} {K:List Value->Prop},lE P rv rs ρ w.heap K →
 ∃vs,K vs/\(rv.mapM (G0 a.tmps)).run P w=.ok (pD rs vs) w
 | [],[],K,h=>⟨[],h,by simp[pD]⟩
 | r::rv,s::rs,K,h=>by
  obtain⟨v1,hl,hK,hr⟩:=JP hf h;obtain⟨e,b,d⟩:=Dz hf hK;refine⟨v1++e,b,?_⟩;simp only[List.mapM_cons,Sem.run_bind,hr,Result.andThen_ok,d,Sem.run_pure];cases s with
  | one c=>
   match v1,hl with
   | [v],_=>simp[pD,UC]
  | agg cs=>
   simp only[SK.ks]at hl;simp only[pD,UC,←hl,List.take_left,List.drop_left]
 | [],_::_,K,h=>h.elim
 | _::_,[],K,h=>h.elim
theorem KW {P:Program}{fn:Func}{ρ:Env}{a:Act}{N:Nat}{w:World}{rs:List SK}{K:List Value->Prop}(hf:Fits N ρ a)(h:lE P fn.results.toList rs ρ w.heap K) :
 ∃vs,K vs/\(results fn a.tmps).run P w=.ok (pack rs vs) w:=by
 obtain⟨vs,b,d⟩:=Dz hf h;refine⟨vs,b,?_⟩;rw[Ri,Array.mapM_eq_mapM_toList];simp only[Sem.run_bind,Sem.run_map,d,Result.andThen_ok,Sem.run_pure,pack];split
 ·rename_i h1
  match hp:pD rs vs,h1 with
  | [v],_=>simp
 ·rename_i h1
  match hp:pD rs vs,h1 with
  | [],_=>rfl
  | [v],h1=>simp at h1
  | _::_::_,_=>rfl
theorem R0 {a b:Prop}(f:b)(e:a=b:=by kernel_rfl):a:=e.mpr f
theorem Wa {P:Program}{f:Nat}{fn:Func}{x:Hn}{args:List Value}{rs:List SK}{R:eR (eT rs)}{h:Hp}(hfn:P.funcs[f]?=some fn)(hk:CX P fn x args rs R h):Wc P f args.toArray rs h R:=by
 intro w hw;subst hw;unfold CX at hk;split at hk
 case h_2=>exact hk.elim
 rename_i c hb;rw[Wu]at hk;obtain⟨g,hk⟩:=hk;have r:args.length<=fn.ntmps:=xz g;refine calls_of_wp hfn hb ?_;refine Qh c hk (ρ:=HP args) ⟨rfl,by simp;omega,λi v j=>?_⟩ λe A y u a s z p=>?_
 ·simp only[HP]at j;have m:i<args.length:=(cW.1 j).1;rw[td (by simpa using m)];simpa using j
 ·cases e<;>simp only[oh]at p
  case normal=>
   obtain⟨vs,d,b⟩:=KW a p;exact⟨a.defers,_,b,s,vs,rfl,UI d⟩
  case ret=>
   obtain⟨vs,d,b⟩:=KW a p;exact⟨a.defers,_,b,s,vs,rfl,UI d⟩
theorem Cb {start:eR []->Prop}{round:eR []->eR []}(I:aP)(μ:Hp->Nat)(h0:start I)
 (hr:∀h,I h->round (λh'=>I h'/\μ h'<μ h) h):Yp [] start round:=
 ⟨I,μ,h0,λ_ h ⟨b,a⟩=>a▸hr h b⟩
theorem ZS {a:CK}{start:eR [a]->Prop}{round:eR [a]->eR [a]}(I:a.T->Hp->Prop)(μ:a.T->Hp->Nat)(h0:start I)
 (hr:∀x h,I x h->round (λx' h'=>I x' h'/\μ x' h'<μ x h) x h):Yp [a] start round:=
 ⟨I,μ,h0,λ_ x h ⟨d,b⟩=>b▸hr x h d⟩
theorem UO {a bb:CK}{start:eR [a,bb]->Prop}{round:eR [a,bb]->eR [a,bb]}(I:a.T->bb.T->Hp->Prop)(μ:a.T->bb.T->Hp->Nat)(h0:start I)
 (hr:∀x y h,I x y h->round (λx' y' h'=>I x' y' h'/\μ x' y' h'<μ x y h) x y h):Yp [a,bb] start round:=
 ⟨I,μ,h0,λ_ x y h ⟨d,b⟩=>b▸hr x y h d⟩
theorem aG {a:Addr}{K:Addr->Prop}(h:K a):bU (some a) K:=⟨a,rfl,h⟩
theorem ns {k:IntKind}{a:Addr}{h:Hp}{n:Int}{K:Int->Prop}(hc:cell h a=some (.int k n))(hK:K n):gA k a h K:=⟨n,hc,hK⟩
theorem mY {a:Addr}{h:Hp}{n:Bool}{K:Bool->Prop}(hc:cell h a=some (.bool n))(hK:K n):lg a h K:=⟨n,hc,hK⟩
theorem uz {a:Addr}{h:Hp}{n:Option Addr}{K:Option Addr->Prop}(hc:cell h a=some (.pointer n))(hK:K n):fU a h K:=⟨n,hc,hK⟩
theorem D6 {a:Addr}{h:Hp}{n:Option Nat}{K:Option Nat->Prop}(hc:cell h a=some (.map n))(hK:K n):kZ a h K:=⟨n,hc,hK⟩
theorem nq {a:Addr}{h:Hp}{x:Option Addr}{n c:Nat}{K:Sl->Prop}(hc:cell h a=some (.slice x n c))(hK:K ⟨x,n,c⟩):jq a h K:=⟨⟨x,n,c⟩,hc,hK⟩
theorem Ud {e:Int}(h1 : -9223372036854775808<=e)(h2:e<=9223372036854775807):IntKind.i64.wrap e=e:=by
 unfold IntKind.wrap;simp[IntKind.bits,IntKind.signed];omega
theorem ar {e:Int}{K:Int->Prop}(h1 : -9223372036854775808<=e)(h2:e<=9223372036854775807)(hK:K e):Ar .i64 e K:=by
 unfold Ar;rw[Ud h1 h2];exact hK
theorem Ld (e:Int) : -9223372036854775808<=IntKind.i64.wrap e/\IntKind.i64.wrap e<=9223372036854775807:=by
 unfold IntKind.wrap;simp[IntKind.bits,IntKind.signed];omega
theorem nz {y:Int}{A:Prop}(h:y≠0)(hA:A):Nz y A:=⟨h,hA⟩
theorem nn {y:Int}{A:Prop}(h:0<=y)(hA:A):Nn y A:=⟨h,hA⟩
theorem ix {a:Addr}{n:Nat}{i:Int}{sz:Nat}{K:Addr->Prop}(h0:0<=i)(h1:i<(n:Int))(hK:K (a.add (i.toNat*sz))):Ix (some a) n i sz K:=⟨a,rfl,h0,h1,hK⟩
theorem cO {b:Bool}{A B:Prop}(h1:b=true->A)(h2:b=false->B):If b A B:=If.mk h1 h2
theorem cQ {p:Prop}[Decidable p]{A B:Prop}(h1:p->A)(h2:¬p->B):If (decide p) A B:=
 If.mk (λh=>h1 (rH h)) (λh=>h2 (sK h))
theorem cD {b:Bool}{A B:Prop}(hb:b=true)(h:A):If b A B:=by subst hb;exact h
theorem cB {b:Bool}{A B:Prop}(hb:b=false)(h:B):If b A B:=by subst hb;exact h
theorem lB {p:Prop}[Decidable p]{A B:Prop}(hp:p)(h:A):If (decide p) A B:=cD (by simpa using hp) h
theorem fS {p:Prop}[Decidable p]{A B:Prop}(hp:¬p)(h:B):If (decide p) A B:=cB (by simpa using hp) h
theorem Ef (a:Int)(n:Nat):a.fdiv (2^n)=a/2^n:=Int.fdiv_eq_ediv_of_nonneg _ (Int.le_of_lt (Int.pow_pos aB))
theorem Xs {a b:Int}(h:0<=a):a.tdiv b=a/b:=Int.tdiv_eq_ediv_of_nonneg h
theorem Qm {a b:Int}(h:0<=a):a.tmod b=a%b:=Int.tmod_eq_emod_of_nonneg h
def bY (h:Hp)(b:Nat)(cs:List Value):Prop:=∃e,h[b]?=some (.cells cs.toArray e (0,0))
theorem bY.lt {h:Hp}{b:Nat}{cs:List Value}(hb:bY h b cs):b<h.size:=by
 obtain⟨e,a⟩:=hb;exact(j3.1 a).1
theorem bY.cell {h:Hp}{b o:Nat}{cs:List Value}(hb:bY h b cs):cell h ⟨b,o,none⟩=cs[o]? := by
 obtain⟨e,a⟩:=hb;simp[Vc.cell,a]
theorem bY.nf {h:Hp}{b o:Nat}{cs:List Value}(hb:bY h b cs):nf h ⟨b,o,none⟩=false:=by
 obtain⟨e,a⟩:=hb;simp[Vc.nf,a]
theorem bY.set {h:Hp}{b o:Nat}{cs:List Value}(hb:bY h b cs)(v:Value):bY (jQ h ⟨b,o,none⟩ v) b (cs.set o v):=by
 obtain⟨e,a⟩:=hb;refine⟨e,?_⟩;simp[jQ,tW,a]
theorem Vv {h:Hp}{a:Addr}{v:Value}{b:Nat}(hne:b≠a.block):(jQ h a v)[b]?=h[b]? := by
 simp only[jQ,tW];rw[zB (Ne.symm hne)]
theorem add_lit (b o n:Nat):Addr.add ⟨b,o,none⟩ n=⟨b,o+n,none⟩:=Addr.add_lit b o n
def l4 (h:Hp)(b:Nat)(cs:List Value):Prop:=∃e z,h[b]?=some (.cells cs.toArray e z)
theorem bY.q {h:Hp}{b:Nat}{cs:List Value}(hb:bY h b cs):l4 h b cs:=by
 obtain⟨e,a⟩:=hb;exact⟨e,_,a⟩
theorem l4.lt {h:Hp}{b:Nat}{cs:List Value}(hb:l4 h b cs):b<h.size:=by
 obtain⟨e,z,a⟩:=hb;exact(j3.1 a).1
theorem l4.cell {h:Hp}{b o:Nat}{cs:List Value}(hb:l4 h b cs):cell h ⟨b,o,none⟩=cs[o]? := by
 obtain⟨e,z,a⟩:=hb;simp[Vc.cell,a]
def Ext (F:Nat->Prop)(h h':Hp):Prop:=h.size<=h'.size/\∀b,b<h.size->¬F b->h'[b]?=h[b]?
def bK (h h':Hp):Prop:=Ext (λ_=>False) h h'
theorem Ext.refl (F:Nat->Prop)(h:Hp):Ext F h h:=⟨zD _,λ_ _ _=>rfl⟩
theorem Ext.trans {F:Nat->Prop}{a b c:Hp}(h:Ext F a b)(k:Ext F b c):Ext F a c:=
 ⟨ze h.1 k.1,λi e d=>(k.2 i (tJ e h.1) d).trans (h.2 i e d)⟩
theorem Ext.mono {F G:Nat->Prop}{a b:Hp}(h:Ext F a b)(hs:∀i,i<a.size->F i->G i):Ext G a b:=
 ⟨h.1,λi d g=>h.2 i d λe=>g (hs i d e)⟩
theorem bK.to {F:Nat->Prop}{a b:Hp}(h:bK a b):Ext F a b:=Ext.mono h λ_ _ h=>h.elim
theorem Ext.jL {F:Nat->Prop}{a b c:Hp}(h:Ext F a b)(k:bK b c):Ext F a c:=h.trans k.to
theorem Ext.size {F:Nat->Prop}{a b:Hp}(h:Ext F a b):a.size<=b.size:=h.1
theorem Ext.push (F:Nat->Prop)(h:Hp)(o:Obj):Ext F h (h.push o):=
 ⟨by simp,λb a _=>by rw[vP,zB (uQ a)]⟩
theorem Ext.eM {F:Nat->Prop}{h h':Hp}{r:Nat}(ho:Qk h h' r)(hr:F r):Ext F h h':=
 ⟨Nat.le_of_eq ho.1.symm,λb _ a=>ho.2 b λe=>a (e▸hr)⟩
theorem Ext.jQ {F:Nat->Prop}{h:Hp}{a:Addr}{v:Value}(hr:F a.block):Ext F h (jQ h a v):=
 ⟨Nat.le_of_eq (KV h a v).symm,λb _ d=>Vv λe=>d (e▸hr)⟩
theorem Ext.at_ {F:Nat->Prop}{h h':Hp}(e:Ext F h h'){b:Nat}{o:Obj}(hb:h[b]?=some o)(hf:¬F b):h'[b]?=some o:=by
 rw[e.2 b (j3.1 hb).1 hf];exact hb
theorem Ext.bT {F:Nat->Prop}{h h':Hp}(e:Ext F h h'){b:Nat}{cs:List Value}(hb:bY h b cs)(hf:¬F b):bY h' b cs:=by
 obtain⟨t,a⟩:=hb;exact⟨t,e.at_ a hf⟩
theorem Ext.fR {F:Nat->Prop}{h h':Hp}(e:Ext F h h'){r:Nat}{k:IntKind}{c:CK}{l:List (Int×c.T)}(hb:dL h r k c l)(hf:¬F r):dL h' r k c l:=by
 obtain⟨d,b,g,a⟩:=hb;exact⟨d,b,e.at_ g hf,a⟩
theorem dL.lt {h:Hp}{r:Nat}{k:IntKind}{c:CK}{l:List (Int×c.T)}(hb:dL h r k c l):r<h.size:=by
 obtain⟨d,a,b,_⟩:=hb;exact(j3.1 b).1
theorem dL.nodup {h:Hp}{r:Nat}{k:IntKind}{c:CK}{l:List (Int×c.T)}(hb:dL h r k c l):(l.map (·.1)).Nodup:=by
 obtain⟨d,a,e,_,b,_⟩:=hb;exact b
theorem Ws {h h':Hp}{r b:Nat}{cs:List Value}(ho:Qk h h' r)(hb:bY h b cs)(hne:b≠r):bY h' b cs:=by
 obtain⟨t,a⟩:=hb;exact⟨t,by rw[ho.2 b hne];exact a⟩
theorem U4 {h h':Hp}{r b:Nat}{k:IntKind}{c:CK}{l:List (Int×c.T)}(ho:Qk h h' r)(hb:dL h b k c l)(hne:b≠r):dL h' b k c l:=by
 obtain⟨e,d,g,a⟩:=hb;exact⟨e,d,by rw[ho.2 b hne];exact g,a⟩
end Go.Vc
namespace Go.Bu
open Go Go.Vc
theorem MN {a b:Nat}(ha:a<9223372036854775808)(hb:b<9223372036854775808):bits .xor .i64 (a:Int) (b:Int)=((a ^^^ b:Nat):Int):=by
 have g:a ^^^ b<2^63:=Nat.xor_lt_two_pow O O;have d:(BitVec.ofInt 64 (a:Int)).toNat=a:=by
  rw[BitVec.ofInt_natCast,BitVec.toNat_ofNat];exact ux O
 have e:(BitVec.ofInt 64 (b:Int)).toNat=b:=by
  rw[BitVec.ofInt_natCast,BitVec.toNat_ofNat];exact ux O
 show IntKind.i64.wrap ((BitVec.ofInt 64 (a:Int) ^^^ BitVec.ofInt 64 (b:Int)).toNat:Int)=_;rw[BitVec.toNat_xor,d,e,Ud]<;>omega
theorem iN {a b:Nat}(ha:a<9223372036854775808)(hb:b<9223372036854775808):bits .and .i64 (a:Int) (b:Int)=((a &&& b:Nat):Int):=by
 have g:a &&& b<2^63:=Nat.and_lt_two_pow _ O;have d:(BitVec.ofInt 64 (a:Int)).toNat=a:=by
  rw[BitVec.ofInt_natCast,BitVec.toNat_ofNat];exact ux O
 have e:(BitVec.ofInt 64 (b:Int)).toNat=b:=by
  rw[BitVec.ofInt_natCast,BitVec.toNat_ofNat];exact ux O
 show IntKind.i64.wrap ((BitVec.ofInt 64 (a:Int) &&& BitVec.ofInt 64 (b:Int)).toNat:Int)=_;rw[BitVec.toNat_and,d,e,Ud]<;>omega
theorem I6 (q:Nat):q ^^^ 1=gU q:=by
 apply Nat.eq_of_testBit_eq;intro i;rw[Nat.testBit_xor];unfold gU;cases i with
 | zero=>
  simp only[Nat.testBit_zero];split<;>rename_i h
  ·have:(q+1)%2=1:=by omega
   simp[h,this]
  ·have a:q%2=1:=by omega
   have:(q-1)%2=0:=by omega
   simp[a,this]
 | succ i=>
  simp only[Nat.testBit_succ];have b:(1:Nat)/2=0:=by decide
  rw[b,Nat.zero_testBit,Bool.xor_false]
  congr 1
  split<;>omega
theorem Ih (q k:Nat):(q*2^k) ^^^ (2^k)=gU q*2^k:=by
 have h:=Nat.shiftLeft_xor_distrib (a:=q) (b:=1) (i:=k);rw[I6,Nat.shiftLeft_eq,Nat.shiftLeft_eq,Nat.shiftLeft_eq,Nat.one_mul]at h;exact h.symm
theorem Ez {k:Nat}(h:k<=62):2^k<=4611686018427387904:=oe (n:=2) aB h
def Keys (S:Nat->Bool)(k:Nat)(B:List (Int×Bool)):Prop:=
 (∀x v,(x,v)∈B->v=true/\∃q:Nat,x=((q*2^k:Nat):Int)/\can S k q=true)/\∀q,can S k q=true->(((q*2^k:Nat):Int),true)∈B
structure BH (U:Hp) (p n:Nat) (S:Nat->Bool) (sb:Nat) (ms:List Nat):Prop where
 hd:∃cap,bY U p [.int .i64 n,.slice (some ⟨sb,0,none⟩) ms.length cap]
 row:∃rest,bY U sb (ms.map (λm=>Value.map (some m))++rest)
 maps:∀k m,ms[k]?=some m->∃B:List (Int×Bool),dL U m .i64 .b B/\Keys S k B
 nd:(p::sb::ms).Nodup
 n1:1<=n
 n2:n<=1024
 lo:2^ms.length<=2*n
 hi:n<2^ms.length
 jo:Bounded S n
def fp (p sb:Nat)(ms:List Nat)(b:Nat):Prop:=b∈p::sb::ms
variable {U h':Hp}{p n sb:Nat}{S:Nat->Bool}{ms:List Nat}
theorem BH.len (h:BH U p n S sb ms):ms.length<=11:=by
 have:=h.lo;have:=h.n2;apply Classical.byContradiction;intro hc;have:2^12<=2^ms.length:=oe aB O;omega
theorem BH.fits (h:BH U p n S sb ms){k q:Nat}(hf:q*2^k+2^k<=n):k<ms.length:=by
 apply Classical.byContradiction;intro hc;have:2^ms.length<=2^k:=oe aB O;have:=h.hi;omega
theorem BH.F9 (h:BH U p n S sb ms):cell U ⟨p,0,none⟩=some (.int .i64 n):=by
 obtain⟨cap,a⟩:=h.hd;rw[a.cell];rfl
theorem BH.mY (h:BH U p n S sb ms):∃cap,cell U ⟨p,1,none⟩=some (.slice (some ⟨sb,0,none⟩) ms.length cap):=by
 obtain⟨cap,a⟩:=h.hd;exact⟨cap,by rw[a.cell];rfl⟩
theorem BH.PV (h:BH U p n S sb ms){k m:Nat}(hm:ms[k]?=some m):cell U ⟨sb,k,none⟩=some (.map (some m)):=by
 obtain⟨a,b⟩:=h.row;rw[b.cell,zh (by simpa using(cW.1 hm).1),zg,hm];rfl
theorem BH.get (h:BH U p n S sb ms){k:Nat}(hk:k<ms.length):∃m,ms[k]?=some m:=⟨ms[k],by simp[hk]⟩
theorem BH.bR (h:BH U p n S sb ms){F:Nat->Prop}(e:Ext F U h')(hF:∀b,fp p sb ms b->¬F b):BH h' p n S sb ms where
 hd:=by obtain⟨cap,d⟩:=h.hd;exact⟨cap,e.bT d (hF _ (by simp[fp]))⟩
 row:=by obtain⟨a,d⟩:=h.row;exact⟨a,e.bT d (hF _ (by simp[fp]))⟩
 maps:=λk m g=>by
  obtain⟨B,j,i⟩:=h.maps k m g;exact⟨B,e.fR j (hF _ (by simp[fp,zG g])),i⟩
 nd:=h.nd
 n1:=h.n1
 n2:=h.n2
 lo:=h.lo
 hi:=h.hi
 jo:=h.jo
theorem BH.bO (h:BH U p n S sb ms)(e:bK U h'):BH h' p n S sb ms:=h.bR e λ_ _=>id
theorem LW {k:Nat}{B:List (Int×Bool)}(hK:Keys S k B)(hn:(B.map (·.1)).Nodup)(q:Nat):bW B ((q*2^k:Nat):Int)=if can S k q then some true else none:=by
 unfold bW;cases hf:B.find? λx=>x.1==((q*2^k:Nat):Int)with
 | some x=>
  have i:=sN hf;have a:=rU hf;obtain⟨e,p⟩:=x;obtain⟨j,m,g,b⟩:=hK.1 e p a;have d:e=((q*2^k:Nat):Int):=by simpa using i
  rw[d]at g;have:q*2^k=m*2^k:=by exact_mod_cast g
  have:=vO (kF k) this;subst this;subst j;simp[b]
 | none=>
  rw[ny]at hf;by_cases b:can S k q=true
  ·have:=hf _ (hK.2 q b);simp at this
  ·simp[b]
theorem BH.lk (h:BH U p n S sb ms){k m q:Nat}(hm:ms[k]?=some m){x:Int}(hx:x=((q*2^k:Nat):Int)){K:Option Bool->Prop}
 (hK:K (if can S k q then some true else none)):Lk .i64 .b (some m) x U K:=by
 obtain⟨B,a,d⟩:=h.maps k m hm;exact⟨B,a,by rw[hx,LW d a.nodup];exact hK⟩
theorem DD {k:Nat}{B:List (Int×Bool)}(hK:Keys S k B)(hn:(B.map (·.1)).Nodup)(hb:Bounded S n):B.length=many n S k:=by
 have m:(B.map (·.1)).Perm (((List.range n).filter (can S k)).map λq=>((q*2^k:Nat):Int)):=by
  rw[Bm hn]
  ·intro x;simp only[zE,zI,zc];constructor
   ·rintro⟨⟨x1,x2⟩,hm,rfl⟩;obtain⟨_,q,p,d⟩:=hK.1 x1 x2 hm;refine⟨q,⟨?_,d⟩,p.symm⟩;have:=ZD hb (Zu.1 d).1;have j:=kF k;have r:q<=q*2^k:=Nat.le_mul_of_pos_right _ j;omega
   ·rintro⟨q,⟨_,d⟩,rfl⟩;exact⟨_,hK.2 q d,rfl⟩
  ·have e:((List.range n).filter (can S k)).Pairwise (· ≠ ·):=List.Pairwise.sublist sX List.nodup_range;refine List.Pairwise.map _ (λa b (i:a≠b) g=>i ?_) e;have:a*2^k=b*2^k:=by exact_mod_cast g
   exact vO (kF k) this
 have:=m.length_eq;simp only[zl]at this;rw[this,many,wN]
theorem BH.kS (h:BH U p n S sb ms){k m:Nat}(hm:ms[k]?=some m){K:Int->Prop}(hK:K ((many n S k:Nat):Int)):qE .i64 .b (some m) U K:=by
 obtain⟨B,a,d⟩:=h.maps k m hm;exact⟨B,a,by rw[DD d a.nodup h.jo];exact hK⟩
theorem BH.oK (h:BH U p n S sb ms){k m:Nat}{T:Nat->Bool}(hm:ms[k]?=some m)(ho:Qk U h' m){B':List (Int×Bool)}(hB':dL h' m .i64 .b B')(hK':Keys T k B')
 (hoth:∀j q,j≠k->can T j q=can S j q) (hT:Bounded T n):BH h' p n T sb ms where
 hd:=by
  obtain⟨cap,s⟩:=h.hd;refine⟨cap,Ws ho s ?_⟩;have:=h.nd;simp only[zr,zW,not_or]at this;rintro rfl;exact this.1.2 (zG hm)
 row:=by
  obtain⟨i,s⟩:=h.row;refine⟨i,Ws ho s ?_⟩;have:=h.nd;simp only[zr,zW,not_or]at this;rintro rfl;exact this.2.1 (zG hm)
 maps:=λj w a=>by
  by_cases e:j=k
  ·subst e;rw[hm]at a;cases a;exact⟨B',hB',hK'⟩
  ·obtain⟨B,C,g⟩:=h.maps j w a;refine⟨B,U4 ho C ?_,?_⟩
   ·rintro rfl;have d:=h.nd;simp only[zr]at d;exact e ((List.getElem?_inj (cW.1 a).1 d.2.2).1 (a.trans hm.symm))
   ·refine⟨λx v z=>?_,λq A=>g.2 q (by rw[←hoth j q e];exact A)⟩;obtain⟨y,q,r,u⟩:=g.1 x v z;exact⟨y,q,r,by rw[hoth j q e];exact u⟩
 nd:=h.nd
 n1:=h.n1
 n2:=h.n2
 lo:=h.lo
 hi:=h.hi
 jo:=hT
theorem OZ (hb:Bounded S n)(k q:Nat):Bounded (del S k q) n:=λx a=>hb x (Vm.1 a).1
theorem DW (hb:Bounded S n){k q:Nat}(hf:q*2^k+2^k<=n):Bounded (ins S k q) n:=λx a=>by
 rcases Vl.1 a with h|h
 ·exact hb x h
 ·have:=ZZ.1 h;omega
theorem FY {a b:Bool}(h:a=true↔b=true):a=b:=by cases a<;>cases b<;>simp_all
theorem BH.rK (h:BH U p n S sb ms){k m q:Nat}(hm:ms[k]?=some m)(hc:can S k q=true){x:Int}(hx:x=((q*2^k:Nat):Int)){K:aP}
 (hK:∀h',Ext (· ∈ ms) U h'->BH h' p n (del S k q) sb ms->K h'):lJ .i64 .b (some m) x U K:=by
 obtain⟨B,D,w⟩:=h.maps k m hm;refine⟨B,D,λh' u _ s=>hK h' (Ext.eM (u m rfl) (zG hm)) ?_⟩;refine h.oK hm (u m rfl) s ⟨λy v i=>?_,λr z=>?_⟩ (λj r A=>FY ?_) (OZ h.jo k q)
 ·simp only[cS,zI,mj,mf]at i;obtain⟨C,r,a,g⟩:=w.1 y v i.1;refine⟨C,r,a,(BM hc).2 ⟨g,λe=>i.2 ?_⟩⟩;rw[a,hx,e.2]
 ·have d:=(BM hc).1 z;simp only[cS,zI,mj,mf];refine⟨w.2 r d.1,λe=>d.2 ⟨rfl,?_⟩⟩;rw[hx]at e;have:r*2^k=q*2^k:=by exact_mod_cast e
  exact vO (kF k) this
 ·rw[BM hc];exact⟨λh=>h.1,λh=>⟨h,λe=>A e.1⟩⟩
theorem BH.wM (h:BH U p n S sb ms){k m q:Nat}(hm:ms[k]?=some m)(hd:∀y,y/2^k=q->S y=false)(hup:¬full (ins S k q) (k+1) (q/2)=true)(hf:q*2^k+2^k<=n)
 {x:Int} (hx:x=((q*2^k:Nat):Int)) {K:aP} (hK:∀h',Ext (· ∈ ms) U h'->BH h' p n (ins S k q) sb ms->K h'):kc .i64 .b (some m) x true U K:=by
 obtain⟨B,F,w⟩:=h.maps k m hm;refine⟨m,B,rfl,F,λh' A z=>hK h' (Ext.eM A (zG hm)) ?_⟩;have s:∀y∈B,(y.1==x)=false:=by
  rintro⟨y,v⟩ d;obtain⟨_,r,a,g⟩:=w.1 y v d;simp only[mf];rintro rfl;rw[hx]at a;have:q*2^k=r*2^k:=by exact_mod_cast a
  have:=vO (kF k) this;subst this;have u:=VJ g (Kw k q);rw[hd _ (Kw k q)]at u;cases u
 have i:dB B x true=B++[(x,true)]:=by
  unfold dB;rw[zB];simp only[pN,mh];intro y d;simp[s y d]
 refine h.oK hm A z ?_ (λj r D=>FY ?_) (DW h.jo hf)
 ·rw[i];refine⟨λy v d=>?_,λr C=>?_⟩
  ·simp only[zK,zN,Prod.mk.injEq]at d;rcases d with d|⟨rfl,rfl⟩
   ·obtain⟨E,r,a,g⟩:=w.1 y v d;exact⟨E,r,a,(xX hd hup).2 (.inl g)⟩
   ·exact⟨rfl,q,hx,(xX hd hup).2 (.inr ⟨rfl,rfl⟩)⟩
  ·rcases(xX hd hup).1 C with u|⟨_,rfl⟩
   ·exact ke _ (w.2 r u)
   ·rw[hx];exact nI _ aA
 ·rw[xX hd hup];exact⟨λh=>h.elim id λe=>(D e.1).elim,.inl⟩
end Go.Bu
namespace Go.Vc
open Go
theorem VF {b o:Nat}:∀{vs:List Value} {h:Hp} {cs:List Value} {i:Nat} {K:aP},bY h b cs->o+i+vs.length<=cs.length →
 (∀h',Qk h h' b->bY h' b (cs.take (o+i)++vs++cs.drop (o+i+vs.length))->K h')->nh ⟨b,o,none⟩ h vs i K
 | [],h,cs,i,K,hb,hl,hK=>hK h ⟨rfl,λ_ _=>rfl⟩ (by simpa using hb)
 | v::vs,h,cs,i,K,hb,hl,hK=>by
  simp only[zY]at hl;refine⟨?_,?_,?_⟩
  ·rw[add_lit,hb.cell,cV O];rfl
  ·rw[add_lit];exact hb.nf
  ·rw[add_lit];have hb':=hb.set (o:=o+i) v;refine VF hb' aE λh' d a=>hK h' ?_ ?_
   ·exact⟨d.1.trans (KV _ _ _),λc g=>(d.2 c g).trans (Vv g)⟩
   ·have e:(cs.set (o+i) v).take (o+(i+1))++vs++(cs.set (o+i) v).drop (o+(i+1)+vs.length)=cs.take (o+i)++v::vs++cs.drop (o+i+(v::vs).length):=by
     rw[List.drop_set_of_lt O,show o+(i+1)=(o+i)+1 by omega,lI,List.take_set_of_le O,zL O];simp only[Option.toList_some,zz,List.singleton_append,kW,sA,zY]
     congr 4
     omega
    rw[e]at a;exact a
def Own (Q:Nat->Prop)(h:Hp)(s:Sl)(sz:Nat)(xs:List Value):Prop:=
 xs.length=s.len*sz/\(s.a=none/\s.len=0/\s.cap=0\/∃b cs,Q b/\s.a=some ⟨b,0,none⟩/\bY h b cs/\s.len<=s.cap/\cs.length=s.cap*sz/\cs.take xs.length=xs)
def UN (s:Sl)(b:Nat):Prop:=∃o,s.a=some ⟨b,o,none⟩
theorem Own.nil (Q:Nat->Prop)(h:Hp)(sz:Nat):Own Q h ⟨none,0,0⟩ sz []:=⟨by simp,.inl ⟨rfl,rfl,rfl⟩⟩
theorem Own.bR {Q F:Nat->Prop}{h h':Hp}{s:Sl}{sz:Nat}{xs:List Value}(ho:Own Q h s sz xs)(e:Ext F h h')(hF:∀b,Q b->b<h.size->¬F b):Own Q h' s sz xs:=by
 refine⟨ho.1,ho.2.imp id ?_⟩;rintro⟨b,cs,hq,ha,hb,r⟩;exact⟨b,cs,hq,ha,e.bT hb (hF b hq hb.lt),r⟩
theorem Own.bO {Q:Nat->Prop}{h h':Hp}{s:Sl}{sz:Nat}{xs:List Value}(ho:Own Q h s sz xs)(e:bK h h'):Own Q h' s sz xs:=ho.bR e λ_ _ _ h=>h
theorem Own.mono {Q Q':Nat->Prop}{h:Hp}{s:Sl}{sz:Nat}{xs:List Value}(ho:Own Q h s sz xs)(hq:∀b,b<h.size->Q b->Q' b):Own Q' h s sz xs:=by
 refine⟨ho.1,ho.2.imp id ?_⟩;rintro⟨b,cs,hQ,ha,hb,r⟩;exact⟨b,cs,hq b hb.lt hQ,ha,hb,r⟩
theorem Own.jd {Q:Nat->Prop}{h:Hp}{s:Sl}{sz:Nat}{xs:List Value}(ho:Own Q h s sz xs){b:Nat}(hb:UN s b):Q b/\b<h.size:=by
 obtain⟨o,a⟩:=hb;rcases ho.2 with⟨ha,_⟩|⟨b',cs,hq,ha,hk,_⟩
 ·rw[ha]at a;cases a
 ·rw[ha]at a;cases a;exact⟨hq,hk.lt⟩
theorem Own.rd {Q:Nat->Prop}{h:Hp}{s:Sl}{sz:Nat}{xs:List Value}(ho:Own Q h s sz xs):Rd h s.a xs:=by
 rcases ho.2 with⟨ha,hl,_⟩|⟨b,cs,_,ha,hb,_,_,ht⟩
 ·rw[ha];have:=ho.1;rw[hl]at this;simp at this;exact this
 ·rw[ha];intro j v hv;rw[add_lit,hb.cell,zH];rw[←ht,zj]at hv;split at hv
  ·exact hv
  ·cases hv
theorem Own.cell {Q:Nat->Prop}{h:Hp}{s:Sl}{sz:Nat}{xs:List Value}(ho:Own Q h s sz xs){j:Nat}{v:Value}(hv:xs[j]?=some v):∃b,s.a=some ⟨b,0,none⟩/\Vc.cell h ⟨b,j,none⟩=some v:=by
 rcases ho.2 with⟨ha,hl,_⟩|⟨b,cs,_,ha,hb,_,_,ht⟩
 ·have:=ho.1;rw[hl]at this;simp at this;subst this;simp at hv
 ·refine⟨b,ha,?_⟩;rw[hb.cell];rw[←ht,zj]at hv;split at hv
  ·exact hv
  ·cases hv
theorem Own.app {Q:Nat->Prop}{h:Hp}{s x:Sl}{sz bytes e:Nat}{zs xs ys:List Value}{K:Sl->Hp->Prop}(ho:Own Q h s sz xs)(hq:∀b,h.size<=b->Q b)(hz:zs.length=sz)
 (hy:ys.length=x.len*sz) (hr:Rd h x.a ys) (h1:∀v∈ys,dQ v=true) (hb:(s.len+x.len)*bytes<=2^46) (hc:s.len+x.len<=2^62)
 (hx:0<x.len) (hK:∀s' h',s'.len=s.len+x.len->Ext (UN s) h h'->Own Q h' s' sz (xs++ys)->s'.a≠none->K s' h'):App s sz bytes e zs x h K:=by
 refine⟨xs,ys,ho.1,hy,ho.rd,hr,h1,hb,hc,λg=>?_,λp c j=>?_⟩
 ·rcases ho.2 with⟨ha,hl,hcap⟩|⟨b,cs,hQ,ha,hk,hle,hcl,ht⟩
  ·omega
  ·rw[ha];simp only;rw[add_lit];have r:(s.len+x.len)*sz<=s.cap*sz:=lS _ g;rw[zm]at r;have d:=ho.1;refine VF hk O λh' m i=>hK _ h' rfl (Ext.eM m ⟨0,ha⟩) ⟨?_,.inr ⟨b,_,hQ,rfl,i,g,?_,?_⟩⟩ aA
   ·simp[d,hy,zm]
   ·simp;omega
   ·rw[zP,d];rw[zH,jY,←d];rw[ht,nX aA,mN aA]
 ·refine hK _ _ rfl (Ext.push _ _ _) ⟨by simp[ho.1,hy,zm],.inr ⟨h.size,xs++ys++(List.replicate (c-(s.len+x.len)) zs).flatten,hq _ (zD _),rfl,⟨e,by simp⟩,j,?_,?_⟩⟩ aA
  ·simp only[zP,wh,uh,vR,ho.1,hy,hz,←zm]
   congr 1;omega
  ·rw[nX aA,mN aA]
theorem J7 {h:Hp}{v:Value}{e:Nat}:Rd (h.push (.cells #[v] e (0,0))) (some ⟨h.size,0,none⟩) [v]:=by
 intro j u hu;rw[add_lit];cases j with
 | zero=>simp at hu;subst hu;simp[Vc.cell]
 | succ j=>simp at hu
theorem bY.Jy {h:Hp}{b o:Nat}{cs:List Value}(hb:bY h b cs){v:Value}(ho:o<cs.length){K:aP}(hK:∀h',Qk h h' b->bY h' b (cs.set o v)->K h'):dX (Addr.add ⟨b,0,none⟩ o) v h K:=by
 rw[add_lit,zH];refine⟨?_,hb.nf,hK _ ⟨KV _ _ _,λc a=>Vv a⟩ (hb.set v)⟩;rw[hb.cell,cV ho];rfl
theorem bY.push (h:Hp)(cs:List Value)(e:Nat):bY (h.push (.cells cs.toArray e (0,0))) h.size cs:=⟨e,by simp⟩
theorem dL.push (h:Hp)(k:IntKind)(c:CK):dL (h.push (.map #[] 0)) h.size k c []:=⟨#[],0,by simp,by simp,by simp,by simp,by simp⟩
theorem Ext.only {F:Nat->Prop}{a b c:Hp}{r:Nat}(e:Ext F a b)(ho:Qk b c r)(hr:F r\/a.size<=r):Ext F a c:=
 ⟨by rw[ho.1];exact e.1,λi g d=>by
  rw[ho.2 i ?_];exact e.2 i g d;rintro rfl;rcases hr with h|h
  ·exact d h
  ·omega⟩
theorem Ext.fresh {a b c:Hp}{F:Nat->Prop}(e:bK a b)(k:Ext F b c)(hF:∀i,F i->a.size<=i):bK a c:=
 ⟨ze e.1 k.1,λi d _=>(k.2 i (tJ d e.1) λg=>by have:=hF i g;omega).trans (e.2 i d id)⟩
theorem Own.st {Q:Nat->Prop}{h:Hp}{s:Sl}{sz:Nat}{xs:List Value}(ho:Own Q h s sz xs){j:Nat}(hj:j<xs.length){v:Value}{K:aP}{a:Addr}(ha:∀b,s.a=some ⟨b,0,none⟩->a=⟨b,j,none⟩)
 (hK:∀h',Ext (UN s) h h'->Own Q h' s sz (xs.set j v)->K h'):dX a v h K:=by
 rcases ho.2 with⟨h1,hl,_⟩|⟨b,cs,hq,hsa,hb,hle,hcl,ht⟩
 ·have:=ho.1;rw[hl]at this;simp at this;subst this;simp at hj
 ·rw[ha b hsa];have d:j<cs.length:=by
   have:(cs.take xs.length).length=xs.length:=by rw[ht]
   rw[zZ]at this;omega
  refine⟨by rw[hb.cell,cV d];rfl,hb.nf,hK _ (Ext.jQ (F:=UN s) ⟨0,hsa⟩) ⟨by simp[ho.1],.inr ⟨b,_,hq,hsa,hb.set v,hle,by simp[hcl],?_⟩⟩⟩;rw[nK,List.take_set,ht]
end Go.Vc