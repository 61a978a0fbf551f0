/- Texts joined. -/
import Init
import Derived.WalkKit
import Derived.WalkLawsBesides
import Derived.WalkSpells
import Derived.ChangeKeysEq
import Derived.StillTail
import Derived.OrdersHeld
import Derived.Scope
set_option linter.unusedVariables false
set_option linter.unusedSimpArgs false
abbrev zB:=@if_neg
abbrev zC:=@if_pos
abbrev zD:=@Nat.le_refl
abbrev zE:=@List.mem_map
abbrev zF:=@Bool.and_eq_true
abbrev zG:=@List.mem_of_getElem?
abbrev zH:=@Nat.zero_add
abbrev zI:=@decide_eq_true
abbrev zJ:=@List.mem_append
abbrev zK:=@List.mem_filter
abbrev zL:=@decide_eq_false
abbrev zM:=@List.length_append
abbrev zN:=@List.mem_singleton
abbrev zO:=@List.getElem?_set_self
abbrev zP:=@List.getElem?_of_mem
abbrev zQ:=@List.getD_eq_getElem?_getD
abbrev zR:=@List.map_cons
abbrev zS:=@List.length_cons
abbrev zT:=@if_true
abbrev zU:=@beq_iff_eq
abbrev zV:=@decide_eq_true_eq
abbrev zW:=@List.mem_cons
abbrev zX:=@List.getElem?_eq_none
abbrev zY:=@List.length_take
abbrev zZ:=@List.getElem?_map
abbrev za:=@Bool.false_eq_true
abbrev zc:=@Int.eq_ofNat_of_zero_le
abbrev zd:=@List.getElem?_append_left
abbrev ze:=@Option.map_some
abbrev zg:=@List.mem_range
abbrev zh:=@List.getElem?_set_ne
abbrev zj:=@List.map_append
abbrev zk:=@List.length_map
abbrev zl:=@List.append_assoc
abbrev zm:=@List.getElem?_take
abbrev zo:=@Nat.add_mul
abbrev zp:=@List.getElem?_append_right
abbrev zr:=@List.nodup_cons
abbrev zt:=@List.ext_getElem?
abbrev zy:=@List.any_eq_true
abbrev jT:=@Array.getElem?_eq_some_iff
abbrev jV:=@if_false
abbrev kf:=@Nat.eq_of_beq_eq_true
abbrev kv:=@Nat.lt_or_ge
abbrev kF:=@List.all_eq_true
abbrev kD:=@Nat.le_trans
abbrev kh:=@List.map_congr_left
abbrev ky:=@List.getElem_mem
abbrev kB:=@List.take_add_one
abbrev kr:=@Nat.add_zero
abbrev kj:=@List.length_drop
abbrev kG:=@List.append_nil
abbrev kN:=@List.mem_append_left
abbrev lb:=@Nat.two_pow_pos
abbrev kZ:=@Bool.eq_iff_iff
abbrev lK:=@List.getElem?_drop
abbrev lh:=@List.length_nil
abbrev lQ:=@List.map_map
abbrev lN:=@List.cons_append
abbrev lP:=@List.take_of_length_le
abbrev l7:=@List.mem_cons_of_mem
abbrev mi:=@List.take_length
abbrev mD:=@Nat.mul_le_mul_right
abbrev mG:=@List.any_eq_false
abbrev mB:=@List.pairwise_iff_getElem
abbrev mC:=@Nat.mul_le_mul
abbrev mY:=@List.getElem?_replicate
abbrev mM:=@Nat.pow_succ
abbrev mJ:=@Bool.not_eq_true'
abbrev m9:=@List.nodup_append
abbrev mL:=@List.mem_cons_self
abbrev mV:=@beq_eq_false_iff_ne
abbrev nc:=@Nat.zero_lt_one
abbrev nV:=@List.findIdx?_eq_some_iff_getElem
abbrev nU:=@List.getElem?_set
abbrev nL:=@Nat.mul_one
abbrev nS:=@Bool.or_eq_true
abbrev nR:=@List.getElem?_range
abbrev nT:=@List.set_set
abbrev nX:=@Bool.eq_false_iff
abbrev oy:=@Option.map_eq_some_iff
abbrev oC:=@List.map_nil
abbrev oQ:=@List.take_append_drop
abbrev oP:=@List.mem_append_right
abbrev oD:=@List.find?_eq_none
abbrev oA:=@List.sum_cons
abbrev pv:=@Option.isSome_iff_exists
abbrev pH:=@List.length_set
abbrev pc:=@Nat.pow_le_pow_right
abbrev pA:=@List.take_append_of_le_length
abbrev pB:=@List.length_pos_iff
abbrev pT:=@List.flatMap_cons
abbrev pI:=@List.length_filter_le
abbrev pY:=@Nat.sub_self
abbrev qQ:=@Nat.lt_trichotomy
abbrev qO:=@List.pairwise_append
abbrev qG:=@List.filter_eq_self
abbrev qL:=@Option.getD_some
abbrev qI:=@Nat.min_eq_left
abbrev qN:=@List.range_succ
abbrev ry:=@List.foldl_cons
abbrev rU:=@Bool.not_eq_true
abbrev ru:=@Option.toList_some
abbrev r8:=@Bool.true_and
abbrev sA:=@Nat.le_of_lt
abbrev sQ:=@Array.getD_eq_getD_getElem?
abbrev s7:=@List.contains_eq_mem
abbrev tg:=@List.nil_append
abbrev tG:=@List.set_cons_succ
abbrev tH:=@List.pairwise_cons
abbrev sX:=@List.replicate_succ
abbrev td:=@List.pairwise_map
abbrev sP:=@Option.map_eq_none_iff
abbrev sC:=@List.length_singleton
abbrev sG:=@of_decide_eq_true
abbrev uM:=@Nat.div_div_eq_div_mul
abbrev uN:=@List.getElem?_modify
abbrev tZ:=@List.filter_cons
abbrev uB:=@List.filter_sublist
abbrev tP:=@List.getElem_map
abbrev uu:=@Bool.and_false
abbrev ur:=@List.mem_of_mem_drop
abbrev tY:=@List.find?_some
abbrev tO:=@List.mem_of_find?_eq_some
abbrev vj:=@List.eq_nil_of_length_eq_zero
abbrev vd:=@List.nodup_nil
abbrev uP:=@true_and
abbrev vz:=@Nat.mod_lt
abbrev vH:=@List.find?_cons
abbrev vp:=@List.all_cons
abbrev vJ:=@List.map_id
abbrev vV:=@List.findIdx?_eq_none_iff
abbrev vY:=@List.flatten_cons
abbrev vI:=@Nat.mod_eq_of_lt
abbrev wF:=@Nat.mul_eq_zero
abbrev wE:=@Nat.zero_mul
abbrev vK:=@List.getElem_of_mem
abbrev wa:=@List.filter_congr
abbrev vv:=@Bool.and_true
abbrev vu:=@List.mem_of_mem_take
abbrev wH:=@Nat.lt_of_lt_of_le
abbrev wB:=@List.map_replicate
abbrev wh:=@Bool.decide_and
abbrev vQ:=@Bool.false_and
abbrev wA:=@List.map_set
abbrev we:=@List.take_succ_cons
abbrev vR:=@List.drop_succ_cons
abbrev vS:=@List.take_zero
abbrev vX:=@List.foldl_append
abbrev vE:=@List.filter_cons_of_neg
abbrev vM:=@List.filter_cons_of_pos
abbrev xF:=@Int.le_refl
abbrev wW:=@List.findIdx?_cons
abbrev yB:=@Nat.mul_assoc
abbrev yf:=@Array.getElem?_push
abbrev xr:=@Nat.ne_of_lt
abbrev xd:=@Array.length_toList
abbrev xD:=@List.filterMap_append
abbrev xN:=@Bool.false_or
abbrev yi:=@List.mem_filterMap
abbrev x8:=@Bool.not_false
abbrev xq:=@Array.getElem?_append_left
abbrev wX:=@Nat.eq_of_mul_eq_mul_right
abbrev wV:=@List.length_flatten
abbrev yl:=@List.sum_replicate_nat
abbrev xh:=@List.drop_eq_getElem_cons
abbrev xR:=@Nat.add_assoc
abbrev xU:=@List.countP_cons
abbrev xA:=@List.filter_map
abbrev xm:=@List.filter_append
abbrev xC:=@List.count_append
abbrev A5:=@Nat.div_mul_le_self
abbrev yV:=@List.map_eq_nil_iff
abbrev AN:=@Array.mem_of_getElem?
abbrev Az:=@Array.getElem?_toList
abbrev Bj:=@Array.getElem?_setIfInBounds_ne
abbrev yJ:=@List.mem_map_of_mem
abbrev Bi:=@List.mem_replicate
abbrev AA:=@Nat.le_of_ble_eq_true
abbrev Ab:=@Array.isEmpty_iff
abbrev Bg:=@List.contains_iff_mem
abbrev y5:=@Array.getElem?_modify
abbrev AK:=@List.countP_eq_length_filter
abbrev Aq:=@List.getElem?_cons_succ
abbrev AI:=@List.length_range
abbrev yQ:=@List.drop_zero
abbrev AU:=@List.count_replicate
abbrev yN:=@List.take_take
abbrev AD:=@List.take_left'
abbrev AJ:=@List.dropLast_eq_take
abbrev As:=@Bool.or_eq_false_iff
abbrev Al:=@List.mem_or_eq_of_mem_set
abbrev yH:=@List.getElem?_cons_zero
abbrev yR:=@List.not_mem_nil
abbrev AW:=@List.count_eq_zero
abbrev AP:=@List.size_toArray
abbrev Af:=@Int.dvd_of_emod_eq_zero
abbrev AV:=@of_decide_eq_false
abbrev CG:=@Nat.mul_div_cancel
abbrev Dq:=@Array.toList_modify
abbrev B8:=@Array.toList_eraseIdxIfInBounds
abbrev BV:=@List.replicate_succ'
abbrev BN:=@List.filter_filter
abbrev CJ:=@List.filterMap_cons
abbrev Dh:=@Nat.lt_of_le_of_lt
abbrev Cx:=@List.perm_ext_iff_of_nodup
abbrev CF:=@Nat.eq_zero_or_pos
abbrev BF:=@List.length_dropLast
abbrev DE:=@List.set_append_right
abbrev CO:=@Nat.add_sub_cancel_left
abbrev Dd:=@List.take_sublist
abbrev B9:=@List.drop_of_length_le
abbrev Br:=@List.find?_isSome
abbrev Da:=@List.eq_of_mem_replicate
abbrev D5:=@List.length_filter_lt_length_iff_exists
abbrev CZ:=@List.length_eq_zero_iff
abbrev Eu:=@List.getElem?_zipWith
abbrev Dc:=@List.nodup_iff_count
abbrev CI:=@List.count_pos_iff
abbrev Cq:=@List.count_singleton_self
theorem cY {α:Type _}{l:List α}{i:Nat}{a:α}:l[i]?=some a↔∃h:i<l.length,l[i]=a:=List.getElem?_eq_some_iff
theorem cW {α:Type _}{l:List α}{i:Nat}(h:i<l.length):l[i]?=some l[i]:=List.getElem?_eq_getElem h
theorem dH (n:Nat):(n:Int).toNat=n:=Int.toNat_natCast n
theorem O{p:Prop}(h:p:=by omega):p:=h
theorem aA{p:Prop}(h:p:=by simp):p:=h
theorem aB{p:Prop}(h:p:=by decide):p:=h
theorem aC{p:Prop}(h:p:=by simp only;omega):p:=h
theorem aD{p:Prop}(h:p:=by first|omega | (simp only;omega)):p:=h
theorem aE{p:Prop}(h:p:=by simp;omega):p:=h
abbrev aW(b:Nat):Option Go.Addr:=some ⟨b,0,none⟩
namespace Go.Ar
structure cA where
 size:Nat
 aG:Nat
 batch:Nat
 deriving DecidableEq
def cA.n (c:cA):Nat:=c.aG*256/c.size
def U4 (x y z:Int):Bool:=decide (8<=x)&&(decide (x<=512)&&(decide (x%8=0)&&(decide (1<=y)&&(decide (y<=4)&&(decide (x<=y*256)&&(decide (1<=z)&&decide (z<=32)))))))
def cA.ok (c:cA):Prop:=8<=c.size/\c.size<=512/\c.size%8=0/\1<=c.aG/\c.aG<=4/\c.size<=c.aG*256/\1<=c.batch/\c.batch<=32
theorem HM (x y z:Int):U4 x y z=true↔8<=x/\x<=512/\x%8=0/\1<=y/\y<=4/\x<=y*256/\1<=z/\z<=32:=by simp[U4]
theorem FZ (c:cA):U4 c.size c.aG c.batch=true↔c.ok:=by
 rw[HM];unfold cA.ok;omega
def QG (t:Int×Int×Int):cA:=⟨t.1.toNat,t.2.1.toNat,t.2.2.toNat⟩
theorem Bf {x y z:Int}(h:U4 x y z=true):∃c:cA,c.ok/\QG (x,y,z)=c/\x=c.size/\y=c.aG/\z=c.batch:=by
 rw[HM]at h;refine⟨QG (x,y,z),?_,rfl,?_,?_,?_⟩<;>simp only[QG,cA.ok]<;>omega
def wj:List (Int×Int×Int)->Bool
 | x::y::l=>decide (x.1<y.1)&&wj (y::l)
 | _=>true
def QX (xs:List (Int×Int×Int)):Bool:=decide (1<=xs.length)&&(decide (xs.length<=40)&&(xs.all (λt=>U4 t.1 t.2.1 t.2.2)&&wj xs))
theorem cA.ok.tK {c:cA}(h:c.ok):1<=c.n:=by
 unfold cA.ok at h;exact(Nat.one_le_div_iff O).2 h.2.2.2.2.2.1
theorem cA.ok.kT {c:cA}(h:c.ok):c.n<=128:=by
 unfold cA.ok at h;unfold cA.n;have:c.aG*256/c.size<=1024/8:=Nat.div_le_div O O O;omega
theorem cA.xV (c:cA):c.n*c.size<=c.aG*256:=A5 _ _
structure cH where
 st:Nat
 tk:List Bool
 deriving DecidableEq
def cH.many (s:cH):Nat:=s.tk.count true
def idx (c:cA)(s:cH)(x:Int):Option Nat:=if x<((s.st*256:Nat):Int)\/((s.st*256+s.tk.length*c.size:Nat):Int)<=x then none else some ((x-((s.st*256:Nat):Int)).toNat/c.size)
def at_ (c:cA)(s:cH)(i:Nat):Nat:=s.st*256+i*c.size
def obj (c:cA)(s:cH)(x:Int):Option Nat:=match idx c s x with
 | some i=>if x=((at_ c s i:Nat):Int)then some i else none
 | none=>none
theorem Uu {c:cA}{s:cH}{x:Int}{i:Nat}(hc:0<c.size):idx c s x=some i↔((at_ c s i:Nat):Int)<=x/\x<((at_ c s (i+1):Nat):Int)/\i<s.tk.length:=by
 unfold idx at_;constructor
 .intro h;split at h
  .cases h
  .rename_i hn;cases h;obtain⟨y,rfl⟩:=zc (show 0<=x by omega);have e:((y:Int)-((s.st*256:Nat):Int)).toNat=y-s.st*256:=O
   rw[e];have g:(y-s.st*256)/c.size*c.size<=y-s.st*256:=A5 _ _;have b:=Nat.lt_div_mul_add (a:=y-s.st*256) hc;have d:(y-s.st*256)/c.size<s.tk.length:=(Nat.div_lt_iff_lt_mul hc).2 O;rw[zo];omega
 .rintro⟨g,b,d⟩;obtain⟨y,rfl⟩:=zc (show 0<=x by omega);have j:(i+1)*c.size<=s.tk.length*c.size:=mD _ d;rw[zB O];have e:((y:Int)-((s.st*256:Nat):Int)).toNat=y-s.st*256:=O
  rw[e]
  congr 1
  rw[zo]at b;refine Nat.div_eq_of_lt_le ?_ ?_
  .omega
  .rw[zo];omega
theorem Hg {c:cA}{s:cH}{x:Int}{i:Nat}(hc:0<c.size):obj c s x=some i↔x=((at_ c s i:Nat):Int)/\i<s.tk.length:=by
 unfold obj;constructor
 .intro h;split at h
  .rename_i j hj;split at h
   .cases h;rename_i he;exact⟨he,((Uu hc).1 hj).2.2⟩
   .cases h
  .cases h
 .rintro⟨rfl,hi⟩;have:idx c s ((at_ c s i:Nat):Int)=some i:=(Uu hc).2 ⟨xF _,by unfold at_;rw[zo];omega,hi⟩;rw[this];simp
def low (s:cH):Option Nat:=s.tk.findIdx? (· == false)
def cH.put (s:cH)(i:Nat)(v:Bool):cH:={s with tk:=s.tk.set i v}
def kV (c:cA)(ss:List cH)(x:Int):Option Nat:=ss.findIdx? λs=>(idx c s x).isSome
def eD (c:cA)(ss:List cH)(x:Int):Option Bool:=match kV c ss x with
 | some k=>match ss[k]? with
  | some s=>(obj c s x).map λi=>s.tk.getD i false
  | none=>none
 | none=>none
def xL (x y:cH):Bool:=decide (x.many>y.many)||(x.many==y.many&&decide (x.st<y.st))
def ZE (ss:List cH):Nat->Option Nat
 | 0=>none
 | k+1=>match ss[k]? with
  | some x=>if x.many<x.tk.length then(match ZE ss k with
   | some j=>match ss[j]? with
    | some y=>if xL x y then some k else some j
    | none=>some k
   | none=>some k)else ZE ss k
  | none=>ZE ss k
def iR (ss:List cH):Option Nat:=ZE ss ss.length
def ja (c:cA)(ss:List cH):Option (Nat×List cH):=match iR ss with
 | some k=>match ss[k]? with
  | some s=>match low s with
   | some i=>some (at_ c s i,ss.set k (s.put i true))
   | none=>none
  | none=>none
 | none=>none
def KJ (c:cA):Nat->List cH->List Nat×List cH
 | 0,ss=>([],ss)
 | m+1,ss=>match ja c ss with
  | some (x,ss')=>let r:=KJ c m ss';(x::r.1,r.2)
  | none=>([],ss)
def iI (c:cA)(ss:List cH)(xs:List Int):Int:=
 if xs.any (λx=>(eD c ss x).isNone)then 8 else if xs.any (λx=>eD c ss x==some false) || !decide xs.Nodup then 9 else 0
def fM (c:cA)(ss:List cH)(x:Int):List cH:=match kV c ss x with
 | some k=>match ss[k]? with
  | some s=>match obj c s x with
   | some i=>ss.set k (s.put i false)
   | none=>ss
  | none=>ss
 | none=>ss
def cK (ss:List cH):List cH:=ss.filter λs=>s.many != 0
def QW (ss:List cH):List Nat:=(ss.filter λs=>s.many==0).map (·.st)
def rO (c:cA)(ss:List cH)(x:Int):Option Nat:=match kV c ss x with
 | some k=>match ss[k]? with
  | some s=>(idx c s x).map (at_ c s)
  | none=>none
 | none=>none
def ir (c:cA)(ss:List cH)(st:Nat):List cH:=ss.takeWhile (λs=>s.st<st)++⟨st,List.replicate c.n false⟩::ss.dropWhile (λs=>s.st<st)
def oh (c:cA)(ss:List cH)(x:Nat):Int:=if ss.any (λs=>max s.st x-min s.st x<c.aG)then 9 else 0
def pd (ss:List cH):Nat:=(ss.map λs=>s.tk.length-s.many).sum
structure gQ where
 low:Nat
 bs:List (List Int)
 deriving DecidableEq
def gH {α:Type}(l:List α)(a b:Nat)(v:α):List α:=l.mapIdx λi x=>if a<=i/\i<b then v else x
theorem Vn {α:Type}(l:List α)(a b:Nat)(v:α):(gH l a b v).length=l.length:=by simp[gH]
theorem HL {α:Type}(l:List α)(a b:Nat)(v:α)(i:Nat):(gH l a b v)[i]?=(l[i]?).map λx=>if a<=i/\i<b then v else x:=by
 simp[gH,List.getElem?_mapIdx]
theorem Ox {α:Type}{l:List α}{a b:Nat}{v:α}(h1:a<=b)(h2:b<=l.length):gH l a b v=l.take a++List.replicate (b-a) v++l.drop b:=by
 apply zt;intro i;rw[HL];rcases kv i a with h|h
 .rw[zl,zd aE,zm,zC h];have:l[i]?=some l[i]:=cW O;rw[this];simp;omega
 rcases kv i b with h'|h'
 .rw[zl,zp aE,zd aE];have:l[i]?=some l[i]:=cW O;rw[this];simp[mY,h,h'];omega
 .rw[zp aE];have e:i-(l.take a++List.replicate (b-a) v).length=i-b:=by simp;omega
  rw[e,lK,show b+(i-b)=i by omega];cases l[i]?<;>simp;omega
def uZ (l:List Nat)(a b v:Nat):Nat:=((l.drop a).take (b-a)).count v
end Go.Ar
namespace Go.Bu
def full (S:Nat->Bool)(k q:Nat):Bool:=(List.range (2^k)).all λi=>S (q*2^k+i)
def can (S:Nat->Bool)(k q:Nat):Bool:=full S k q && !full S (k+1) (q/2)
theorem DW {k q i:Nat}(hi:i<2^k):(q*2^k+i)/2^k=q:=by
 rw[Nat.add_comm,Nat.add_mul_div_right _ _ (lb k),Nat.div_eq_of_lt hi,zH]
theorem G4 {k q p:Nat}(h:p/2^k=q):p=q*2^k+p%2^k:=by
 rw[←h,Nat.mul_comm];exact(Nat.div_add_mod p (2^k)).symm
theorem QI {k q p:Nat}:p/2^k=q↔q*2^k<=p/\p<q*2^k+2^k:=by
 have a:=lb k;constructor
 .intro h;have:=G4 h;have b:=vz p a;omega
 .rintro⟨h1,h2⟩;have:p=q*2^k+(p-q*2^k):=O
  rw[this];exact DW O
theorem YW {S:Nat->Bool}{k q:Nat}:full S k q=true↔∀p,p/2^k=q->S p=true:=by
 simp only[full,kF,zg];constructor
 .intro h p hp;have:=h (p%2^k) (vz _ (lb k))
  rwa [←G4 hp]at this
 .intro h i hi;exact h _ (DW hi)
theorem Z1 {S:Nat->Bool}{k q:Nat}:can S k q=true↔full S k q=true/\¬full S (k+1) (q/2)=true:=by
 simp[can]
theorem uR {p k j:Nat}(h:k<=j):p/2^j=p/2^k/2^(j-k):=by
 rw[uM,←Nat.pow_add]
 congr 2;omega
theorem EG {S:Nat->Bool}{k j q:Nat}(h:k<=j)(hf:full S j (q/2^(j-k))=true):full S k q=true:=by
 rw[YW]at hf ⊢;intro p hp;exact hf p (by rw[uR h,hp])
theorem FW {q k j:Nat}(h:k<j):q/2/2^(j-(k+1))=q/2^(j-k):=by
 rw[uM]
 congr 1
 rw[←Nat.pow_succ']
 congr 1;omega
theorem Ko {S:Nat->Bool}{k j q r p:Nat}(hk:can S k q=true)(hj:full S j r=true)(hp:p/2^k=q)(hr:p/2^j=r)(h:k<j):False:=by
 rw[Z1]at hk;refine hk.2 (EG (j:=j) O ?_);rw[FW h,←hp,←uR (sA h),hr];exact hj
theorem Ji {S:Nat->Bool}{k j q r p:Nat}(hk:can S k q=true)(hj:can S j r=true)(hp:p/2^k=q)(hr:p/2^j=r):k=j/\q=r:=by
 rcases qQ k j with h|h|h
 .exact(Ko hk (Z1.1 hj).1 hp hr h).elim
 .subst h;exact⟨rfl,hp.symm.trans hr⟩
 .exact(Ko hj (Z1.1 hk).1 hr hp h).elim
def Bounded (S:Nat->Bool)(n:Nat):Prop:=∀p,S p=true->p<n
theorem Qc {S:Nat->Bool}{n k q:Nat}(hb:Bounded S n)(h:full S k q=true):q*2^k+2^k<=n:=by
 rw[YW]at h;have a:=lb k;have:=hb _ (h (q*2^k+(2^k-1)) (DW O));omega
theorem Β {S:Nat->Bool}{p:Nat}:full S 0 p=S p:=by simp[full]
theorem U7 {S:Nat->Bool}{n p:Nat}(hb:Bounded S n)(hp:S p=true):∃k,can S k (p/2^k)=true:=by
 apply Classical.byContradiction;intro hno;have all:∀k,full S k (p/2^k)=true:=by
  intro k
  induction k with
  | zero=>simpa[Β]using hp
  | succ k ih=>
   apply Classical.byContradiction;intro hn;refine hno ⟨k,Z1.2 ⟨ih,?_⟩⟩;rw[uM,←mM];exact hn
 have:=Qc hb (all n);have:=@Nat.lt_two_pow_self n;omega
theorem Ur {S:Nat->Bool}{k q p:Nat}(h:can S k q=true)(hp:p/2^k=q):S p=true:=YW.1 (Z1.1 h).1 p hp
def del (S:Nat->Bool)(k q:Nat):Nat->Bool:=λp=>S p && !(p/2^k==q)
def ins (S:Nat->Bool)(k q:Nat):Nat->Bool:=λp=>S p||p/2^k==q
theorem V5 {S:Nat->Bool}{k q p:Nat}:del S k q p=true↔S p=true/\p/2^k≠q:=by simp[del]
theorem V8 {S:Nat->Bool}{k q p:Nat}:ins S k q p=true↔S p=true\/p/2^k=q:=by simp[ins]
theorem Vl (k q:Nat):(q*2^k)/2^k=q:=CG _ (lb k)
theorem B7 {S:Nat->Bool}{k q j r:Nat}(hc:can S k q=true):can (del S k q) j r=true↔can S j r=true/\¬(j=k/\r=q):=by
 constructor
 .intro h;obtain⟨i,s⟩:=Z1.1 h;rw[YW]at i;have u:full S j r=true:=YW.2 λp b=>(V5.1 (i p b)).1;refine⟨Z1.2 ⟨u,λd=>s (YW.2 λp b=>?_)⟩,?_⟩
  .refine V5.2 ⟨YW.1 d p b,λg=>?_⟩;rcases kv k (j+1)with m|m
   .exact Ko hc d g b m
   .-- the greater ZK lies in the block
    have a:=Vl j r;have x:=(V5.1 (i _ a)).2;apply x;rw[uR (show j+1<=k by omega)];have e:r*2^j/2^(j+1)=r/2:=by
     rw[mM,←uM,a]
    rw[e,←b,←uR (show j+1<=k by omega),g]
  .rintro⟨rfl,rfl⟩;exact(V5.1 (i _ (Vl _ _))).2 (Vl _ _)
 .rintro⟨h,hne⟩;obtain⟨i,s⟩:=Z1.1 h;refine Z1.2 ⟨YW.2 λp b=>V5.2 ⟨YW.1 i p b,λg=>hne ?_⟩,λd=>s (YW.2 λp b=>(V5.1 (YW.1 d p b)).1)⟩;obtain⟨m,w⟩:=Ji h hc b g;exact⟨m,w⟩
theorem AG {S:Nat->Bool}{k q j r:Nat}(hd:∀p,p/2^k=q->S p=false)(hup:¬full (ins S k q) (k+1) (q/2)=true) :
 can (ins S k q) j r=true↔can S j r=true\/(j=k/\r=q):=by
 have g:can (ins S k q) k q=true:=Z1.2 ⟨YW.2 λp d=>V8.2 (.inr d),hup⟩;constructor
 .intro h;by_cases he:j=k/\r=q
  .exact .inr he
  left;obtain⟨i,m⟩:=Z1.1 h;refine Z1.2 ⟨YW.2 λp d=>?_,λb=>m (YW.2 λp d=>V8.2 (.inl (YW.1 b p d)))⟩;rcases V8.1 (YW.1 i p d)with h1|h1
  .exact h1
  .exact(he (Ji h g d h1)).elim
 .rintro(h|⟨rfl,rfl⟩)
  .obtain⟨i,m⟩:=Z1.1 h;refine Z1.2 ⟨YW.2 λp d=>V8.2 (.inl (YW.1 i p d)),λb=>m (YW.2 λp d=>?_)⟩;rcases V8.1 (YW.1 b p d)with h1|h1
   .exact h1
   .rcases kv k (j+1)with h2|h2
    .refine(hup (EG (j:=j+1) O ?_)).elim;have e:q/2^(j+1-k)=r/2:=by rw[←h1,←uR (show k<=j+1 by omega),d]
     rw[FW h2,e];exact b
    .have a:=Vl j r;have s:=YW.1 i _ a;have e:r*2^j/2^(j+1)=r/2:=by
      rw[mM,←uM,a]
     have:r*2^j/2^k=q:=by
      rw[uR h2,e,←d,←uR h2,h1]
     rw[hd _ this]at s;cases s
  .exact g
def ie (q:Nat):Nat:=if q%2=0 then q+1 else q-1
theorem IX (q:Nat):ie q/2=q/2:=by unfold ie;split<;>omega
theorem Sa (q:Nat):ie q≠q:=by unfold ie;split<;>omega
theorem NS {q r:Nat}(h:r/2=q/2):r=q\/r=ie q:=by unfold ie;split<;>omega
theorem HP {k q p:Nat}:p/2^(k+1)=q/2↔p/2^k=q\/p/2^k=ie q:=by
 rw[mM,←uM];constructor
 .intro h;exact NS h
 .rintro(h|h)<;>rw[h]
  exact IX q
theorem Wl5 {T:Nat->Bool}{k q:Nat}(hd:∀p,p/2^k=q->T p=false)(hm:¬can T k (ie q)=true):¬full (ins T k q) (k+1) (q/2)=true:=by
 intro hup;have a:full T k (ie q)=true:=YW.2 λp d=>by
  rcases V8.1 (YW.1 hup p (HP.2 (.inr d)))with h|h
  .exact h
  .exact(Sa q (d.symm.trans h)).elim
 have:full T (k+1) (ie q/2)=true:=Classical.byContradiction λh=>hm (Z1.2 ⟨a,h⟩);rw[IX]at this;have b:=YW.1 this (q*2^k) (HP.2 (.inl (Vl k q)));rw[hd _ (Vl k q)]at b;cases b
def dF (S:Nat->Bool)(a b:Nat):Nat->Bool:=λp=>S p||(decide (a<=p)&&decide (p<b))
def take (S:Nat->Bool)(a b:Nat):Nat->Bool:=λp=>S p && !(decide (a<=p)&&decide (p<b))
theorem KX {S:Nat->Bool}{a b p:Nat}:dF S a b p=true↔S p=true\/(a<=p/\p<b):=by simp[dF]
theorem Vq {S:Nat->Bool}{a b p:Nat}:take S a b p=true↔S p=true/\¬(a<=p/\p<b):=by
 simp[take];intro _;omega
theorem ve {S T:Nat->Bool}(h:∀p,S p=true↔T p=true):S=T:=by
 funext p
 have:=h p;cases hs:S p<;>cases ht:T p<;>simp_all
theorem RB (S:Nat->Bool)(k q:Nat):ins S k q=dF S (q*2^k) (q*2^k+2^k):=
 ve λp=>by rw[V8,KX,QI]
theorem Wi7 {S:Nat->Bool}{a b c:Nat}(h1:a<=b)(h2:b<=c):dF (dF S a b) b c=dF S a c:=
 ve λp=>by simp only[KX];cases S p<;>simp<;>omega
theorem Pf (S:Nat->Bool)(a:Nat):dF S a a=S:=ve λp=>by simp only[KX];cases S p<;>simp<;>omega
theorem MX (S:Nat->Bool)(a:Nat):take S a a=S:=ve λp=>by simp only[Vq];cases S p<;>simp<;>omega
def many (n:Nat)(S:Nat->Bool)(k:Nat):Nat:=(List.range n).countP (can S k)
def WoP (S:Nat->Bool)(K p:Nat):Bool:=(List.range K).any λk=>can S k (p/2^k)
end Go.Bu
namespace Go.Vc
open Go
abbrev Hp:=Array Obj
abbrev _root_.aN:=Int->Hp->Prop
abbrev _root_.aO:=Bool->Hp->Prop
abbrev _root_.aP:=Hp->Prop
structure Sl where
 a:Option Addr
 len:Nat
 cap:Nat
structure Fv where
 f:Nat
 first:Array Value
 captured:Array Value
inductive CK where
 | i (k:IntKind)|b|p|s|m|str|fn|raw|ag (n:Nat)|ad
 deriving DecidableEq
abbrev _root_.bO:CK:=.i .i64
@[reducible] def jz:Nat->Type
 | 0=>Unit
 | 1=>Int
 | n+2=>Int×jz (n+1)
def jz.vs:(n:Nat)->jz n->List Value
 | 0,_=>[]
 | 1,x=>[.int .i64 x]
 | n+2,x=>.int .i64 x.1::jz.vs (n+1) x.2
@[reducible] def CK.T:CK->Type
 | .i _=>Int
 | .b=>Bool
 | .p=>Option Addr
 | .s=>Sl
 | .m=>Option Nat
 | .str=>ByteArray
 | .fn=>Fv
 | .raw=>Value
 | .ag n=>jz n
 | .ad=>Addr
def CK.v:(c:CK)->c.T->Value
 | .i k,y=>.int k y
 | .b,x=>.bool x
 | .p,y=>.pointer y
 | .s,y=>.slice y.a y.len y.cap
 | .m,y=>.map y
 | .str,x=>.string x
 | .fn,x=>.func (.func x.f) x.first x.captured
 | .raw,y=>y
 | .ag n,y=>.agg (jz.vs n y).toArray
 | .ad,y=>.pointer (some y)
inductive SK where
 | one (c:CK)
 | agg (cs:List CK)
def SK.ks:SK->List CK
 | .one c=>[c]
 | .agg cs=>cs
def fA:List SK->List CK
 | []=>[]
 | s::ss=>s.ks++fA ss
@[reducible] def eR:List CK->Type
 | []=>Hp->Prop
 | c::cs=>c.T->eR cs
@[reducible] def qj:List CK->Type
 | []=>Hp->Nat
 | c::cs=>c.T->qj cs
def Sat:(ks:List CK)->eR ks->List Value->Hp->Prop
 | [],R,[],h=>R h
 | c::cs,R,v::vs,h=>∃x:c.T,v=c.v x/\Sat cs (R x) vs h
 | _,_,_,_=>False
def eR.le:(ks:List CK)->eR ks->eR ks->Prop
 | [],R,R'=>∀h,R h->R' h
 | c::cs,R,R'=>∀x:c.T,eR.le cs (R x) (R' x)
def lam:(ks:List CK)->(List Value->Hp->Prop)->eR ks
 | [],K=>K []
 | c::cs,K=>λx=>lam cs λvs=>K (c.v x::vs)
def yu:(n:Nat)->List Value->(jz n->Prop)->Prop
 | 0,[],K=>K ()
 | 1,[.int .i64 x],K=>K x
 | n+2,.int .i64 x::vs,K=>yu (n+1) vs λy=>K (x,y)
 | _,_,_=>False
theorem IZ:∀{n:Nat} {vs:List Value} {K:jz n->Prop},yu n vs K->∃x,vs=jz.vs n x/\K x:=by
 intro n vs K h;unfold yu at h;split at h
 .exact⟨(),rfl,h⟩
 .exact⟨_,rfl,h⟩
 .obtain⟨y,rfl,a⟩:=IZ h;exact⟨_,rfl,a⟩
 .exact h.elim
def ni:(c:CK)->Value->(c.T->Prop)->Prop
 | .i k,.int k' n,K=>if k=k' then K n else False
 | .b,.bool x,K=>K x
 | .p,.pointer a,K=>K a
 | .s,.slice a l c,K=>K ⟨a,l,c⟩
 | .m,.map r,K=>K r
 | .str,.string s,K=>K s
 | .fn,.func (.func f) x y,K=>K ⟨f,x,y⟩
 | .raw,v,K=>K v
 | .ag n,.agg cs,K=>yu n cs.toList K
 | .ad,.pointer (some a),K=>K a
 | _,_,_=>False
def tJ:(ks:List CK)->eR ks->List Value->Hp->Prop
 | [],R,[],h=>R h
 | c::cs,R,v::vs,h=>ni c v λx=>tJ cs (R x) vs h
 | _,_,_,_=>False
theorem Uk {c:CK}{v:Value}{K:c.T->Prop}(h:ni c v K):∃x,v=c.v x/\K x:=by
 cases c<;>cases v<;>simp only[ni]at h<;>try exact h.elim
 case i.int k k' n=>split at h<;>first|exact h.elim | (rename_i e;subst e;exact⟨n,rfl,h⟩)
 case fn.func f x y=>cases f<;>simp only[ni]at h<;>first|exact h.elim|exact⟨⟨_,x,y⟩,rfl,h⟩
 case b.bool x=>exact⟨x,rfl,h⟩
 case p.pointer a=>exact⟨a,rfl,h⟩
 case s.slice a l c=>exact⟨⟨a,l,c⟩,rfl,h⟩
 case m.map r=>exact⟨r,rfl,h⟩
 case str.string s=>exact⟨s,rfl,h⟩
 case ad.pointer p=>cases p<;>simp only[ni]at h<;>first|exact h.elim|exact⟨_,rfl,h⟩
 case ag.agg n cs=>obtain⟨x,e,d⟩:=IZ h;exact⟨x,by simp only[CK.v,←e],d⟩
 all_goals exact⟨_,rfl,h⟩
theorem LB:∀(n:Nat) (x:jz n) (K:jz n->Prop),yu n (jz.vs n x) K=K x
 | 0,_,_=>rfl
 | 1,_,_=>rfl
 | n+2,x,K=>LB (n+1) x.2 _
theorem Nf (c:CK)(x:c.T)(K:c.T->Prop):ni c (c.v x) K=K x:=by
 cases c<;>simp[ni,CK.v]
 exact iff_of_eq (LB _ _ _)
theorem Hs:∀{ks:List CK} {R:eR ks} {vs:List Value} {h:Hp},tJ ks R vs h->Sat ks R vs h
 | [],_,[],_,h=>h
 | _::_,_,_::_,_,h=>by
  obtain⟨x,e,hx⟩:=Uk h;exact⟨x,e,Hs hx⟩
 | [],_,_::_,_,h=>h.elim
 | _::_,_,[],_,h=>h.elim
theorem Sat.mono:∀{ks:List CK} {R R':eR ks},eR.le ks R R'->∀{vs:List Value} {h:Hp},Sat ks R vs h->Sat ks R' vs h
 | [],_,_,hl,[],_,h=>hl _ h
 | _::_,_,_,hl,_::_,_,⟨x,e,h⟩=>⟨x,e,Sat.mono (hl x) h⟩
 | [],_,_,_,_::_,_,h=>h.elim
 | _::_,_,_,_,[],_,h=>h.elim
theorem UB:∀{ks:List CK} {K:List Value->Hp->Prop} {vs:List Value} {h:Hp},Sat ks (lam ks K) vs h->K vs h
 | [],_,[],_,h=>h
 | _::_,K,v::vs,h,hs=>by
  obtain⟨x,rfl,h'⟩:=hs;exact UB (K:=λvs=>K (CK.v _ x::vs)) h'
 | [],_,_::_,_,h=>h.elim
 | _::_,_,[],_,h=>h.elim
abbrev Env:=Nat->Option Value
def Env.nil:Env:=λ_=>none
def Env.put (ρ:Env)(d:Nat)(v:Value):Env:=λi=>bif Nat.beq i d then some v else ρ i
def Env.il (ρ:Env):Option Nat->Value->Env
 | some d,v=>ρ.put d v
 | none,_=>ρ
def Env.eC (ρ:Env)(ds:List Nat):Env:=λi=>bif ds.contains i then none else ρ i
def ev (ρ:Env):Operand->Option Value
 | .tmp t=>ρ t
 | .const v=>some v
 | .global g=>some (.pointer (some ⟨g,0,none⟩))
 | .func f=>some (.func (.func f) #[] #[])
def wv (o:Option Value)(K:Value->Prop):Prop:=match o with|some v=>K v|none=>False
def qR (ρ:Env):List Operand->Option (List Value)
 | []=>some []
 | o::os=>match ev ρ o,qR ρ os with|some v,some vs=>some (v::vs)|_,_=>none
def cell (h:Hp)(a:Addr):Option Value:=
 match h[a.block]? with
 | some (.cells c _ _)=>if a.spot.isSome then none else c[a.off]?
 | _=>none
def oE (h:Hp)(a:Addr):Bool:=
 match h[a.block]? with
 | some (.cells _ _ (lo,hi))=>lo<=a.off&&a.off<hi
 | _=>false
def j3 (h:Hp)(a:Addr)(v:Value):Hp:=
 h.modify a.block fun
  | .cells c elem frozen=>.cells (if a.spot.isSome then c else c.setIfInBounds a.off v) elem frozen
  | o=>o
def gL (k:IntKind)(a:Addr)(h:Hp)(K:Int->Prop):Prop:=∃n,cell h a=some (.int k n)/\K n
def lZ (a:Addr)(h:Hp)(K:Bool->Prop):Prop:=∃n,cell h a=some (.bool n)/\K n
def fZ (a:Addr)(h:Hp)(K:Option Addr->Prop):Prop:=∃n,cell h a=some (.pointer n)/\K n
def jF (a:Addr)(h:Hp)(K:Sl->Prop):Prop:=∃n:Sl,cell h a=some (.slice n.a n.len n.cap)/\K n
def lO (a:Addr)(h:Hp)(K:Option Nat->Prop):Prop:=∃n,cell h a=some (.map n)/\K n
def yk (a:Addr)(h:Hp)(K:ByteArray->Prop):Prop:=∃n,cell h a=some (.string n)/\K n
def RJ (a:Addr)(h:Hp)(K:Fv->Prop):Prop:=∃n:Fv,cell h a=some (.func (.func n.f) n.first n.captured)/\K n
def y7 (a:Addr)(h:Hp)(K:Value->Prop):Prop:=∃n,cell h a=some n/\K n
def N3 (n:Nat)(a:Addr)(h:Hp)(K:jz n->Prop):Prop:=∃x,cell h a=some (CK.v (.ag n) x)/\K x
def BX (a:Addr)(h:Hp)(K:Addr->Prop):Prop:=∃x,cell h a=some (.pointer (some x))/\K x
def Ag:(c:CK)->Addr->Hp->(c.T->Prop)->Prop
 | .i k,a,h,K=>gL k a h K
 | .b,a,h,K=>lZ a h K
 | .p,a,h,K=>fZ a h K
 | .s,a,h,K=>jF a h K
 | .m,a,h,K=>lO a h K
 | .str,a,h,K=>yk a h K
 | .fn,a,h,K=>RJ a h K
 | .raw,a,h,K=>y7 a h K
 | .ag n,a,h,K=>N3 n a h K
 | .ad,a,h,K=>BX a h K
def nZ:List CK->Addr->Nat->Hp->(List Value->Prop)->Prop
 | [],_,_,_,K=>K []
 | c::cs,a,i,h,K=>Ag c (a.add i) h λx=>nZ cs a (i+1) h λvs=>K (c.v x::vs)
def kC (v:Value)(t:TypeId)(vs zs:List Value)(b:Bool):Prop:=match b with
 | true=>v=.iface t (.agg vs.toArray)
 | false=>vs=zs/\(v=.nilIface\/∃t' u,v=.iface t' u/\t'≠t)
def xG (v:Value)(t:TypeId)(zs:List Value):List CK->List Value->(List Value->Bool->Prop)->Prop
 | [],acc,K=>∃b:Bool,kC v t acc zs b/\K acc b
 | c::cs,acc,K=>∃x:c.T,xG v t zs cs (acc++[c.v x]) K
theorem xG.out {v:Value}{t:TypeId}{zs:List Value}:∀{cs:List CK} {acc:List Value} {K:List Value->Bool->Prop},xG v t zs cs acc K->∃vs b,kC v t vs zs b/\K vs b
 | [],acc,K,⟨b,h1,h2⟩=>⟨acc,b,h1,h2⟩
 | c::cs,acc,K,⟨x,h⟩=>xG.out h
def jd (v:Value):Prop:=v=.nilIface\/∃t u,v=.iface t u
def kM:Value->Bool
 | .nilIface=>true
 | _=>false
def O1 (v:Value)(A:Prop):Prop:=match v with
 | .agg _=>False
 | .tuple _=>False
 | _=>A
def Aw:List Value->Prop->Prop
 | [],A=>A
 | v::vs,A=>O1 v (Aw vs A)
def bW (p:Option Addr)(K:Addr->Prop):Prop:=∃a,p=some a/\K a
def Ar (k:IntKind)(e:Int)(K:Int->Prop):Prop:=K (k.wrap e)
def Nz (y:Int)(A:Prop):Prop:=y≠0/\A
def Nn (y:Int)(A:Prop):Prop:=0<=y/\A
def Ix (base:Option Addr)(len:Nat)(i:Int)(sz:Nat)(K:Addr->Prop):Prop:=∃a,base=some a/\0<=i/\i<(len:Int)/\K (a.add (i.toNat*sz))
def oK (a:Addr)(len:Nat)(i:Int)(sz:Nat)(K:Addr->Prop):Prop:=0<=i/\i<(len:Int)/\K (a.add (i.toNat*sz))
def RZ (s:ByteArray)(i:Int)(K:Int->Prop):Prop:=∃b,0<=i/\s[i.toNat]?=some b/\K (b.toNat:Int)
def If (b:Bool)(A B:Prop):Prop:=match b with
 | true=>A
 | false=>B
theorem If.t {b:Bool}{A B:Prop}(h:If b A B)(e:b=true):A:=by subst e;exact h
theorem If.f {b:Bool}{A B:Prop}(h:If b A B)(e:b=false):B:=by subst e;exact h
theorem If.mk {b:Bool}{A B:Prop}(h1:b=true->A)(h2:b=false->B):If b A B:=by cases b;exact h2 rfl;exact h1 rfl
def Nw (o:Obj)(h:Hp)(K:Addr->Hp->Prop):Prop:=K ⟨h.size,0,none⟩ (h.push o)
def dG (a:Addr)(v:Value)(h:Hp)(K:aP):Prop:=(cell h a).isSome=true/\oE h a=false/\K (j3 h a v)
def qA (a:Addr)(h:Hp):List Value->Nat->(Hp->Prop)->Prop
 | [],_,K=>K h
 | v::vs,i,K=>dG (a.add i) v h λh'=>qA a h' vs (i+1) K
def fI (s:Sl)(sz:Nat)(lo hi mx:Int)(K:Sl->Prop):Prop:=
 0<=lo/\lo<=hi/\hi<=mx/\mx<=(s.cap:Int)/\K ⟨if mx.toNat=lo.toNat then s.a else s.a.map (·.add (lo.toNat*sz)),hi.toNat-lo.toNat,mx.toNat-lo.toNat⟩
def dM (h:Hp)(r:Nat)(k:IntKind)(c:CK)(l:List (Int×c.T)):Prop:=
 ∃es clk,h[r]?=some (.map es clk)/\es.toList.map (λe=>(e.key,e.val))=l.map (λx=>(Value.int k x.1,c.v x.2)) ∧
  (l.map (·.1)).Nodup/\(es.toList.map (·.born)).Pairwise (· < ·)/\∀e∈es.toList,e.born<clk
def ju (h:Hp)(m:Option Nat)(k:IntKind)(c:CK)(l:List (Int×c.T)):Prop:=
 match m with
 | none=>l=[]
 | some r=>dM h r k c l
def bS {α:Type}(l:List (Int×α))(n:Int):Option α:=(l.find? λx=>x.1==n).map (·.2)
def cX {α:Type}(l:List (Int×α))(n:Int)(v:α):List (Int×α):=
 if l.any (λx=>x.1==n)then l.map (λx=>if x.1==n then(n,v)else x)else l++[(n,v)]
def cO {α:Type}(l:List (Int×α))(n:Int):List (Int×α):=l.filter λx=>!(x.1==n)
def Ka (h h':Hp)(r:Nat):Prop:=h'.size=h.size/\∀b,b≠r->h'[b]?=h[b]?
def Lk (k:IntKind)(c:CK)(m:Option Nat)(n:Int)(h:Hp)(K:Option c.T->Prop):Prop:=∃l,ju h m k c l/\K (bS l n)
def r9 (k:IntKind)(c:CK)(m:Option Nat)(h:Hp)(K:Int->Prop):Prop:=∃l,ju h m k c l/\K (l.length:Int)
def kS (k:IntKind)(c:CK)(m:Option Nat)(n:Int)(x:c.T)(h:Hp)(K:aP):Prop:=
 ∃r l,m=some r/\dM h r k c l/\∀h',Ka h h' r->dM h' r k c (cX l n x)->K h'
def l5 (k:IntKind)(c:CK)(m:Option Nat)(n:Int)(h:Hp)(K:aP):Prop:=
 ∃l,ju h m k c l/\∀h',(∀r,m=some r->Ka h h' r)->(m=none->h'=h)->ju h' m k c (cO l n)->K h'
def It (h:Hp)(r:Nat)(k:IntKind)(c:CK)(m:Option Nat)(l todo:List (Int×c.T))(cur:Option (Int×c.T)):Prop:=
 match m with
 | none=>l=[]/\todo=[]/\cur=none/\∃s q y,h[r]?=some (.mapIter none s q y)
 | some b=>∃es clk seen,h[r]?=some (.mapIter (some b) clk seen clk)/\h[b]?=some (.map es clk)/\es.toList.map (λe=>(e.key,e.val))=l.map (λx=>(Value.int k x.1,c.v x.2)) ∧
  (l.map (·.1)).Nodup/\(es.toList.map (·.born)).Pairwise (· < ·)/\(∀e∈es.toList,e.born<clk) ∧
  (es.toList.filter λe=>!seen.contains e.born).map (λe=>(e.key,e.val))=todo.map (λx=>(Value.int k x.1,c.v x.2)) ∧
  (∀x,cur=some x->∃e∈es.toList,seen.back?=some e.born/\e.key=.int k x.1/\e.val=c.v x.2)
def pF (k:IntKind)(c:CK)(m:Option Nat)(h:Hp)(K:Addr->Hp->Prop):Prop:=
 ∃l,ju h m k c l/\∀h',h'.size=h.size+1->(∀b,b<h.size->h'[b]?=h[b]?)->It h' h.size k c m l l none->K ⟨h.size,0,none⟩ h'
def pE (k:IntKind)(c:CK)(a:Addr)(h:Hp)(A:Prop)(B:Int->c.T->Hp->Prop):Prop:=
 a.off=0/\∃m l todo cur,It h a.block k c m l todo cur/\(todo=[]->A) ∧
  ∀n x,(n,x)∈todo->∀h',Ka h h' a.block->It h' a.block k c m l (todo.filter λy=>!(y.1==n)) (some (n,x))->B n x h'
def po (k:IntKind)(c:CK)(a:Addr)(h:Hp)(K:Int->c.T->Prop):Prop:=
 a.off=0/\∃m l todo n x,It h a.block k c m l todo (some (n,x))/\K n x
def dY:Value->Bool
 | .agg _=>false
 | .tuple _=>false
 | _=>true
def Rd (h:Hp)(a:Option Addr)(xs:List Value):Prop:=
 match a with
 | none=>xs=[]
 | some a=>∀j v,xs[j]?=some v->cell h (a.add j)=some v
def Fm (s:Sl)(h:Hp)(K:ByteArray->Prop):Prop:=∃bs:List Int,bs.length=s.len/\Rd h s.a (bs.map (.int .u8))/\K ⟨(bs.map λn=>UInt8.ofNat n.toNat).toArray⟩
def App (s:Sl)(sz bytes:Nat)(e:Nat)(zs:List Value)(x:Sl)(h:Hp)(K:Sl->Hp->Prop):Prop:=
 ∃xs ys,xs.length=s.len*sz/\ys.length=x.len*sz/\Rd h s.a xs/\Rd h x.a ys/\(∀v∈ys,dY v=true)/\(s.len+x.len)*bytes<=2^46/\s.len+x.len<=2^62 ∧
  (s.len+x.len<=s.cap->match s.a with
   | some a=>qA (a.add (s.len*sz)) h ys 0 λh'=>K ⟨s.a,s.len+x.len,s.cap⟩ h'
   | none=>K ⟨none,s.len+x.len,s.cap⟩ h) ∧
  (¬s.len+x.len<=s.cap->∀c,s.len+x.len<=c->Nw (.cells (xs++ys++(List.replicate (c-(s.len+x.len)) zs).flatten).toArray e) h λa h'=>K ⟨some a,s.len+x.len,c⟩ h')
def uh (s:Sl)(sz bytes:Nat)(e:Nat)(zs:List Value)(n:Int)(h:Hp)(K:Sl->Hp->Prop):Prop:=
 0<=n/\∃xs,xs.length=s.len*sz/\Rd h s.a xs/\(∀v∈zs,dY v=true)/\(s.len+n.toNat)*bytes<=2^46/\s.len+n.toNat<=2^62/\(n.toNat:Int)*bytes<=2^46 ∧
  (s.len+n.toNat<=s.cap->match s.a with
   | some a=>qA (a.add (s.len*sz)) h (List.replicate n.toNat zs).flatten 0 λh'=>K ⟨s.a,s.len+n.toNat,s.cap⟩ h'
   | none=>K ⟨none,s.len+n.toNat,s.cap⟩ h) ∧
  (¬s.len+n.toNat<=s.cap->∀c,s.len+n.toNat<=c->Nw (.cells (xs++(List.replicate n.toNat zs).flatten++(List.replicate (c-(s.len+n.toNat)) zs).flatten).toArray e) h λa h'=>K ⟨some a,s.len+n.toNat,c⟩ h')
def sF (d:Sl)(sz:Nat)(s:Sl)(h:Hp)(K:aN):Prop:=
 ∃xs,xs.length=min s.len d.len*sz/\Rd h s.a xs/\(∀v∈xs,dY v=true)/\match d.a with
  | some a=>qA a h xs 0 λh'=>K ((min s.len d.len:Nat):Int) h'
  | none=>K ((min s.len d.len:Nat):Int) h
def Bs (s:Sl)(zs:List Value)(h:Hp)(K:aP):Prop:=
 (∀v∈zs,dY v=true)/\match s.a with
  | some a=>qA a h (List.replicate s.len zs).flatten 0 K
  | none=>K h
def Mk (n c:Int)(bytes:Nat)(e:Nat)(zs:List Value)(h:Hp)(K:Sl->Hp->Prop):Prop:=
 0<=n/\n<=c/\(bytes:Int)*c<=2^46/\c<2^62/\Nw (.cells (List.replicate c.toNat zs).flatten.toArray e) h λa h'=>K ⟨some a,n.toNat,c.toNat⟩ h'
def Xx (w w':World):Prop:=w'.os=w.os/\w'.tape=w.tape/\w'.output=w.output/\w.heap.size<=w'.heap.size
def qT:List SK->List Value->List Value
 | [],_=>[]
 | .one _::ss,v::vs=>v::qT ss vs
 | .one _::ss,[]=>undef::qT ss []
 | .agg cs::ss,vs=>.agg (vs.take cs.length).toArray::qT ss (vs.drop cs.length)
def pack (rs:List SK)(vs:List Value):Value:=
 match qT rs vs with
 | [v]=>v
 | l=>.tuple l.toArray
def Wg (P:Program)(f:Nat)(args:Array Value)(rs:List SK)(h:Hp)(R:eR (fA rs)):Prop:=
 ∀w:World,w.heap=h->Calls P f args w λe w'=>Xx w w'/\∃vs,e=.returned (pack rs vs)/\Sat (fA rs) R vs w'.heap
theorem Wg.mono {P:Program}{f:Nat}{args:Array Value}{rs:List SK}{h:Hp}{R R':eR (fA rs)}(c:Wg P f args rs h R)(hl:eR.le (fA rs) R R'):Wg P f args rs h R':=
 λw b=>(c w b).mono λ_ _ ⟨a,vs,e,s⟩=>⟨a,vs,e,s.mono hl⟩
def je (P:Program)(v:Value)(name:String)(args:List Value)(rs:List SK)(h:Hp)(R:eR (fA rs)):Prop:=
 ∃t u f,v=.iface t u/\(∀w,(method (P.types.size+Made.depth) t u name).run P w=.ok (f,u) w)/\(∀xs w,(callFunc f xs).run P w=.ok (.enter f xs) w)/\Wg P f (u::args).toArray rs h R
def Fg (P:Program)(fv:Fv)(args:List Value)(rs:List SK)(h:Hp)(R:eR (fA rs)):Prop:=
 Wg P fv.f (fv.first++args.toArray++fv.captured) rs h R
abbrev SK.I:SK:=.one bO
abbrev _root_.Go.Value.I (x:Int):Value:=.int .i64 x
def Iu:TypeDesc->Option CK
 | .bool=>some .b
 | .int k=>some (.i k)
 | .string=>some .str
 | .pointer _=>some .p
 | .slice _=>some .s
 | .map _ _=>some .m
 | .func _ _ _=>some .fn
 | .interface _=>some .raw
 | _=>none
mutual
def BL (P:Program):Nat->TypeId->Option (List CK)
 | 0,_=>none
 | n+1,t=>
  match P.underlying t with
  | some (.struct fs)=>IK P n fs.toList
  | some (.array m e)=>(BL P n e).map λl=>(List.replicate m l).flatten
  | some d=>(Iu d).map λc=>[c]
  | none=>none
def IK (P:Program):Nat->List Field->Option (List CK)
 | 0,_=>none
 | _+1,[]=>some []
 | n+1,f::fs=>match BL P n f.type,IK P n fs with
  | some a,some b=>some (a++b)
  | _,_=>none
end
def S3:SK->SK
 | .agg cs=>bif cs.all (· == .i .i64)then .one (.ag cs.length)else .agg cs
 | s=>s
def UW:TypeDesc->Bool
 | .struct _ | .array _ _=>true
 | _=>false
def j0 (P:Program)(t:TypeId):Option SK:=
 match P.underlying t with
 | some d=>bif UW d then(BL P 24 t).map .agg else(Iu d).map .one
 | none=>none
def oR (P:Program)(t:TypeId):Option SK:=(j0 P t).map S3
def fU (b:Bool)(A:Prop):Prop:=match b with|true=>A|false=>False
theorem WJ {b:Bool}{A:Prop}:fU b A↔b=true/\A:=by cases b<;>simp[fU]
def qE (op:BinOp)(k:IntKind)(x y:Int)(K:Value->Prop):Prop:=
 match op with
 | .add=>Ar k (x+y) λz=>K (.int k z)
 | .sub=>Ar k (x-y) λz=>K (.int k z)
 | .mul=>Ar k (x*y) λz=>K (.int k z)
 | .quo=>Nz y (Ar k (x.tdiv y) λz=>K (.int k z))
 | .rem=>Nz y (K (.int k (x.tmod y)))
 | .and=>K (.int k (bits .and k x y))
 | .or=>K (.int k (bits .or k x y))
 | .xor=>K (.int k (bits .xor k x y))
 | .andNot=>K (.int k (bits .andNot k x y))
 | .shl=>Nn y (Ar k (x*2^(min y.toNat k.bits)) λz=>K (.int k z))
 | .shr=>Nn y (K (.int k (x.fdiv (2^(min y.toNat k.bits)))))
 | .eql=>K (.bool (x==y))
 | .neq=>K (.bool (x != y))
 | .lss=>K (.bool (decide (x<y)))
 | .leq=>K (.bool (decide (x<=y)))
 | .gtr=>K (.bool (decide (x>y)))
 | .geq=>K (.bool (decide (x≥y)))
def nD (op:BinOp)(b:Bool)(K:Value->Prop):Prop:=
 match op with
 | .eql=>K (.bool b)
 | .neq=>K (.bool (!b))
 | _=>False
def mb (P:Program)(op:BinOp)(t:TypeId)(x y:Value)(K:Value->Prop):Prop:=
 match P.underlying t,x,y with
 | some (.pointer _),.pointer p,.pointer none=>nD op p.isNone K
 | some (.slice _),.slice p _ _,.slice none 0 0=>nD op p.isNone K
 | some (.map _ _),.map p,.map none=>nD op p.isNone K
 | some (.interface _),x,.nilIface=>jd x/\nD op (kM x) K
 | _,_,_=>False
def mw (P:Program)(op:BinOp)(t:TypeId)(x y:Value)(K:Value->Prop):Prop:=
 match x,y with
 | .int k a,.int k' b=>if k=k' then qE op k a b K else(match op with | .shl=>qE .shl k a b K | .shr=>qE .shr k a b K|_=>False)
 | .bool a,.bool b=>match P.underlying t with
  | some .bool=>nD op (a==b) K
  | _=>False
 | .string a,.string b=>match op with
  | .eql=>K (.bool (a.toList==b.toList))
  | .neq=>K (.bool (!(a.toList==b.toList)))
  | _=>False
 | _,_=>False
def pD (P:Program)(xs ys:List Value):List Field->Option Bool
 | []=>some true
 | f::fs=>bif f.name == "_" then none else
  match P.underlying f.type,xs[f.offset]?,ys[f.offset]?,pD P xs ys fs with
  | some (.int _),some (.int k a),some (.int k' b),some r=>if k=k' then some ((a==b)&&r)else none
  | some .bool,some (.bool a),some (.bool b),some r=>some ((a==b)&&r)
  | _,_,_,_=>none
def qu (P:Program)(e:TypeId)(xs ys:List Value):List Nat->Option Bool
 | []=>some true
 | i::is=>match P.underlying e,xs[i]?,ys[i]?,qu P e xs ys is with
  | some (.int _),some (.int k a),some (.int k' b),some r=>if k=k' then some ((a==b)&&r)else none
  | some (.pointer _),some (.pointer p),some (.pointer none),some r=>some (p.isNone&&r)
  | _,_,_,_=>none
def nE (P:Program)(op:BinOp)(t:TypeId)(xs ys:List Value)(K:Value->Prop):Prop:=
 match P.underlying t with
 | some (.struct fs)=>fU (!P.stoodInHeld t && !P.eqGuardType P.depth t) (match pD P xs ys fs.toList with
  | some b=>nD op b K
  | none=>False)
 | some (.array n e)=>fU (!P.eqGuardType P.depth t&&((P.info? e).isSome&&P.cellsOf e==1)) (match qu P e xs ys (List.range n)with
  | some b=>nD op b K
  | none=>False)
 | _=>False
def uj:Operand->Bool
 | .const (.pointer none)=>true
 | .const (.slice none 0 0)=>true
 | .const (.map none)=>true
 | .const .nilIface=>true
 | _=>false
def y6 (h:Hp)(p q:Option Addr)(K:Bool->Prop):Prop:=match p,q with
 | some a,some b=>if a=b then K true else((∃ca ta,h[a.block]?=some (.cells ca ta (0,0)))/\∃cb tb,h[b.block]?=some (.cells cb tb (0,0)))/\K false
 | none,q=>K q.isNone
 | some _,none=>K false
def rY (P:Program)(op:BinOp)(t:TypeId)(p q:Option Addr)(h:Hp)(K:Value->Prop):Prop:=
 match P.underlying t with
 | some (.pointer e)=>fU ((P.info? e).isSome&&P.cellsOf e != 0) (match op with
  | .eql=>y6 h p q λb=>K (.bool b)
  | .neq=>y6 h p q λb=>K (.bool (!b))
  | _=>False)
 | _=>False
def wT (P:Program)(op:BinOp)(t:TypeId)(y:Operand)(vx vy:Value)(h:Hp)(K:Value->Prop):Prop:=
 bif uj y then mb P op t vx vy K else match vx,vy with
 | .agg xs,.agg ys=>nE P op t xs.toList ys.toList K
 | .pointer p,.pointer q=>rY P op t p q h K
 | vx,vy=>mw P op t vx vy K
def nH (P:Program)(s f:Nat)(K:Field->Prop):Prop:=
 match P.underlying s with
 | some (.struct fs)=>match fs[f]? with
  | some fd=>K fd
  | none=>False
 | _=>False
def lT (P:Program)(t:TypeId)(x:Value)(h:Hp)(K:Value->Prop):Prop:=
 match P.underlying t,x with
 | some (.slice _),.slice _ n _=>K (.int .i64 (n:Int))
 | some .string,.string s=>K (.int .i64 (s.size:Int))
 | some (.array n _),_=>K (.int .i64 (n:Int))
 | some (.map kt et),.map m=>match P.underlying kt,oR P et with
  | some (.int k),some (.one c)=>r9 k c m h λz=>K (.int .i64 z)
  | _,_=>False
 | _,_=>False
def A3 (P:Program)(t:TypeId)(x i:Value)(ok:Bool)(h:Hp)(K:Value->Prop):Prop:=
 match P.underlying t,x,i with
 | some (.map kt et),.map m,.int k n=>match P.underlying kt,oR P et,P.info? et with
  | some (.int k'),some (.one c),some ti=>match ti.zero with
   | some z=>if k=k' then ni c z λz=>Lk k c m n h λo=>K (bif ok then .tuple #[c.v (o.getD z),.bool o.isSome]else c.v (o.getD z))else False
   | none=>False
  | _,_,_=>False
 | _,_,_=>False
def qk (isMax:Bool):Value->List Value->(Value->Prop)->Prop
 | v,[],K=>K v
 | .int k x,.int _ y::vs,K=>qk isMax (.int k (bif isMax then(if y>x then y else x)else(if y<x then y else x))) vs K
 | _,_,_=>False
def sK (ZK:Nat->Option (Nat×Nat))(cells:List Value):List (Nat×Value)->Option (List Value)
 | []=>some cells
 | (i,v)::rest=>
  match ZK i with
  | none=>none
  | some (off,size)=>
   if v.cells.size≠size\/off+v.cells.size>cells.length then none
   else sK ZK (cells.take off++v.cells.toList++cells.drop (off+size)) rest
def Gy (ρ:Env):List (Nat×Operand)->Option (List (Nat×Value))
 | []=>some []
 | (i,o)::os=>match ev ρ o,Gy ρ os with|some v,some vs=>some ((i,v)::vs)|_,_=>none
def BM (P:Program)(fs:Array Field)(i:Nat):Option (Nat×Nat):=match fs[i]? with
 | some f=>match P.info? f.type with
  | some ti=>some (f.offset,ti.size)
  | none=>none
 | none=>none
def yg (P:Program)(t:TypeId):Bool:=match P.underlying t with
 | some (.interface _)=>true
 | _=>false
def xk (P:Program)(fs:Array Field)(i:Nat):Bool:=match fs[i]? with
 | some f=>yg P f.type
 | none=>false
def xy (raw:Nat->Bool):List (Nat×Value)->List (Nat×Value)
 | []=>[]
 | (i,v)::ps=>(i,bif raw i then .agg #[v]else v)::xy raw ps
def l9 (raw:Nat->Bool):List (Nat×Value)->Prop->Prop
 | [],A=>A
 | (i,v)::ps,A=>bif raw i then jd v/\l9 raw ps A else l9 raw ps A
def nF (P:Program)(t:TypeId)(ps:List (Nat×Value))(K:Value->Prop):Prop:=
 match P.info? t,P.underlying t with
 | some ti,some (.struct fs)=>match ti.zero with
  | some z=>l9 (xk P fs) ps (match sK (BM P fs) z.cells.toList (xy (xk P fs) ps)with
   | some cs=>fU (fs.toList.all λf=>(P.info? f.type).isSome) (K (.agg cs.toArray))
   | none=>False)
  | none=>False
 | some ti,some (.array _ e)=>match ti.zero,P.info? e with
  | some z,some te=>match sK (λi=>some (i*te.size,te.size)) z.cells.toList ps with
   | some cs=>K (.agg cs.toArray)
   | none=>False
  | _,_=>False
 | _,_=>False
def wG (P:Program)(t:TypeId)(cs:List Value)(off:Nat)(K:Value->Prop):Prop:=
 match P.underlying t,P.info? t with
 | some d,some ti=>bif UW d then K (.agg ((cs.drop off).take ti.size).toArray)else wv (cs[off]?) K
 | _,_=>False
def nK (P:Program)(t:TypeId)(x:Value)(lo hi mx:Option Value)(K:Value->Prop):Prop:=
 match P.underlying t,x with
 | some (.slice e),.slice a n c=>match P.info? e with
  | some ti=>
   let loV:Option Int:=match lo with|none=>some 0|some (.int .i64 z)=>some z|_=>none
   let hiV:Option Int:=match hi with|none=>some n|some (.int .i64 z)=>some z|_=>none
   let mxV:Option Int:=match mx,hi with|none,_=>some c|some (.int .i64 z),some _=>some z|_,_=>none
   match loV,hiV,mxV with
   | some l,some h,some m=>fI ⟨a,n,c⟩ ti.size l h m λs=>K (.slice s.a s.len s.cap)
   | _,_,_=>False
  | none=>False
 | _,_=>False
def vW (ρ:Env):Option Operand->Option (Option Value)
 | none=>some none
 | some o=>(ev ρ o).map some
def qK (P:Program)(o:Op)(ρ:Env)(h:Hp)(K:Value->Prop):Prop:=
 match o with
 | .move x=>wv (ev ρ x) K
 | .assign x=>wv (ev ρ x) K
 | .pick c x y=>wv (ev ρ c) λv=>match v with
  | .bool true=>wv (ev ρ x) K
  | .bool false=>wv (ev ρ y) K
  | _=>False
 | .load t a=>wv (ev ρ a) λv=>match v,j0 P t with
  | .pointer (some a),some (.one c)=>fU (P.info? t).isSome (Ag c a h λx=>K (c.v x))
  | .pointer (some a),some (.agg cs)=>fU (P.cellsOf t==cs.length) (fU (P.info? t).isSome (nZ cs a 0 h λvs=>K (.agg vs.toArray)))
  | _,_=>False
 | .nilCheck x=>wv (ev ρ x) λv=>match v with
  | .pointer p=>bW p λa=>K (.pointer (some a))
  | .func (.func f) a b=>K (.func (.func f) a b)
  | _=>False
 | .binOp op t x y _=>wv (ev ρ x) λvx=>wv (ev ρ y) λvy=>wT P op t y vx vy h K
 | .unOp op _ x=>wv (ev ρ x) λv=>match op,v with
  | .not,.bool b=>K (.bool (!b))
  | .neg,.int k n=>Ar k (0-n) λz=>K (.int k z)
  | _,_=>False
 | .convert s d x=>wv (ev ρ x) λv=>match P.underlying s,P.underlying d,v with
  | some _,some (.int k),.int _ n=>Ar k n λz=>K (.int k z)
  | some _,some .string,.string x=>K (.string x)
  | some (.slice e),some .string,.slice a n c=>(match P.underlying e with|some (.int .u8)=>Fm ⟨a,n,c⟩ h λs=>K (.string s)|_=>False)
  | _,_,_=>False
 | .fieldAddr s x f=>wv (ev ρ x) λv=>nH P s f λfd=>match v with
  | .pointer (some a)=>fU (P.cellsOf fd.type != 0) (K (.pointer (some (a.add fd.offset))))
  | _=>False
 | .field s x f=>wv (ev ρ x) λv=>nH P s f λfd=>match v with
  | .agg cs=>wG P fd.type cs.toList fd.offset K
  | _=>False
 | .indexAddr t x i=>wv (ev ρ x) λvx=>wv (ev ρ i) λvi=>match P.underlying t,vx,vi with
  | some (.slice e),.slice b n _,.int _ i=>fU (P.info? e).isSome (Ix b n i (P.cellsOf e) λa=>K (.pointer (some a)))
  | some (.array n e),.pointer (some a),.int _ i=>fU (P.info? e).isSome (oK a n i (P.cellsOf e) λa=>K (.pointer (some a)))
  | _,_,_=>False
 | .index t x i=>wv (ev ρ x) λvx=>wv (ev ρ i) λvi=>match P.underlying t,vx,vi with
  | some .string,.string s,.int _ i=>RZ s i λz=>K (.int .u8 z)
  | _,_,_=>False
 | .lookup t x i ok=>wv (ev ρ x) λvx=>wv (ev ρ i) λvi=>A3 P t vx vi ok h K
 | .extract t i=>wv (ev ρ t) λv=>match v with
  | .tuple vs=>wv (vs.toList[i]?) K
  | _=>False
 | .makeFunc fn a b=>match qR ρ a.toList,qR ρ b.toList with
  | some va,some vb=>K (.func fn va.toArray vb.toArray)
  | _,_=>False
 | .build t ps=>match Gy ρ ps.toList with
  | some vs=>nF P t vs K
  | none=>False
 | .slice t x lo hi mx=>wv (ev ρ x) λv=>match vW ρ lo,vW ρ hi,vW ρ mx with
  | some lo,some hi,some mx=>nK P t v lo hi mx K
  | _,_,_=>False
 | .makeInterface t x=>wv (ev ρ x) λv=>fU (P.concrete t) (K (.iface t v))
 | .typeAssert x _ t true=>wv (ev ρ x) λv=>match P.underlying t,P.info? t,j0 P t with
  | some (.struct _),some ti,some (.agg cs)=>match ti.zero with
   | some (.agg zs)=>xG v t zs.toList cs [] λvs b=>K (.tuple #[.agg vs.toArray,.bool b])
   | _=>False
  | _,_,_=>False
 | .call c=>match c.callee,qR ρ c.args.toList,c.argTypes.toList with
  | .builtin .len,some [x],[t]=>lT P t x h K
  | .builtin .cap,some [.slice _ _ n],[t]=>(match P.underlying t with|some (.slice _)=>K (.int .i64 (n:Int))|_=>False)
  | .builtin .max,some (x::xs),_=>qk true x xs K
  | .builtin .min,some (x::xs),_=>qk false x xs K
  | _,_,_=>False
 | _=>False
def uz:Op->Bool
 | .move _ | .assign _ | .pick .. | .load _ _ | .nilCheck _ | .binOp .. | .unOp .. | .convert .. | .fieldAddr .. | .field .. | .indexAddr .. | .index .. | .lookup .. | .extract .. | .makeFunc .. | .build .. | .slice .. | .makeInterface .. => true
 | .typeAssert _ _ _ ok=>ok
 | .call c=>match c.callee with | .builtin .len | .builtin .cap | .builtin .max | .builtin .min=>true|_=>false
 | _=>false
theorem Uw {P:Program}{t:Nat}{i:TypeInfo}(hi:P.info? t=some i)(w:World):(typeInfo t).run P w=.ok i w:=by
 simp[typeInfo,hi]
theorem Kt {P:Program}{t:Nat}(h:(P.info? t).isSome=true)(w:World):(sizeOf t).run P w=.ok (P.cellsOf t) w:=by
 obtain⟨i,hi⟩:=pv.1 h;simp[sizeOf,typeInfo,hi,Program.cellsOf]
theorem VW {P:Program}{t:Nat}{i:TypeInfo}{z:Value}(hi:P.info? t=some i)(hz:i.zero=some z)(w:World):(zeroValue t).run P w=.ok z w:=by
 simp[zeroValue,typeInfo,hi,hz]
theorem WhO {P:Program}{op:BinOp}{t:Nat}{k:IntKind}{x y:Int}{K:Value->Prop}(h:qE op k x y K)(w:World) :
 ∃v,(binOp op t (.int k x) (.int k y)).run P w=.ok v w/\K v:=by
 cases op<;>simp only[qE,Ar,Nz,Nn]at h
 all_goals first
  | (refine⟨_,?_,h⟩;simp[binOp,Op.intArith,Op.intCmp,Op.intBits,bits];done)
  | (obtain⟨a,b⟩:=h;refine⟨_,?_,b⟩;simp[binOp,Op.intDiv,a];done)
  | (obtain⟨a,b⟩:=h;refine⟨_,?_,b⟩;simp[binOp,Op.shift,Int.not_lt.2 a];done)
theorem UP {P:Program}{op:BinOp}{t:Nat}{x y:Value}{b:Bool}{K:Value->Prop}(h:nD op b K)(w:World)
 (hb:∀op,(op=.eql\/op=.neq)->binOp op t x y=if op=.eql then(do pure (.bool (←Op.equal t x y)))else(do pure (.bool (!(←Op.equal t x y)))))
 (he:(Op.equal t x y).run P w=.ok b w):∃v,(binOp op t x y).run P w=.ok v w/\K v:=by
 cases op<;>simp only[nD]at h
 case eql=>exact⟨_,by rw[hb .eql (.inl rfl)];simp[he],h⟩
 case neq=>exact⟨_,by rw[hb .neq (.inr rfl)];simp[he],h⟩
theorem Fj {P:Program}{t e:Nat}(hu:P.underlying t=some (.pointer e))(p:Option Addr)(d:Nat)(w:World):(Op.equalIn (d+1) t (.pointer p) (.pointer none)).run P w=.ok p.isNone w:=by
 cases p<;>simp[Op.equalIn,run_underlying hu]
theorem OO {P:Program}{t e:Nat}(hu:P.underlying t=some (.slice e))(p:Option Addr)(n c d:Nat)(w:World):(Op.equalIn (d+1) t (.slice p n c) (.slice none 0 0)).run P w=.ok p.isNone w:=by
 cases p<;>simp[Op.equalIn,run_underlying hu]
theorem Wk7 {P:Program}{t k e:Nat}(hu:P.underlying t=some (.map k e))(p:Option Nat)(d:Nat)(w:World):(Op.equalIn (d+1) t (.map p) (.map none)).run P w=.ok p.isNone w:=by
 cases p<;>simp[Op.equalIn,run_underlying hu]
theorem TC {P:Program}{t:Nat}(hu:P.underlying t=some .bool)(a b:Bool)(d:Nat)(w:World):(Op.equalIn (d+1) t (.bool a) (.bool b)).run P w=.ok (a==b) w:=by
 simp[Op.equalIn,run_underlying hu]
theorem Tn {P:Program}{w:World}{s:Sl}{K:ByteArray->Prop}(h:Fm s w.heap K):∃b,(Conv.bytesToString (.slice s.a s.len s.cap)).run P w=.ok (.string b) w/\K b:=by
 obtain⟨i,r,d,p⟩:=h;refine⟨_,?_,p⟩;cases hs:s.a with
 | none=>
  rw[hs]at d;simp only[Rd,yV]at d;subst d;simp[Conv.bytesToString];rfl
 | some a=>
  rw[hs]at d;have g:(loadCells a s.len).run P w=.ok (i.map (Value.int .u8)).toArray w:=by
   rw[←r];simpa using run_loadCells_list (P:=P) (w:=w) a (i.map (Value.int .u8)) (λj v m=>d j v m)
  have key:∀(l:List Int) (acc:ByteArray),List.foldl (λb a=>b.push (UInt8.ofNat a.toNat)) acc l=⟨acc.data++(l.map λn=>UInt8.ofNat n.toNat).toArray⟩:=by
   intro l
   induction l with
   | nil=>intro acc;simp
   | cons n l ih=>intro acc;rw[ry,ih];congr 1;apply Array.ext';simp[ByteArray.push]
  simp only[Conv.bytesToString,Sem.run_bind,g,Result.andThen_ok];simp[key]
theorem OA {P:Program}{t:Nat}{ms:Array (String×TypeId)}(hu:P.underlying t=some (.interface ms)){v:Value}(hv:jd v)(d:Nat)(w:World):(Op.equalIn (d+1) t v .nilIface).run P w=.ok (kM v) w:=by
 rcases hv with rfl|⟨t',u,rfl⟩
 .simp[Op.equalIn,run_underlying hu,kM]
 .simp[Op.equalIn,run_underlying hu,kM]
theorem Sc {P:Program}{xt t:TypeId}{ti:TypeInfo}{fs:Array Field}{v:Value}{vs zs:List Value}{b:Bool}(hu:P.underlying t=some (.struct fs))(hi:P.info? t=some ti)(hz:ti.zero=some (.agg zs.toArray))
 (h:kC v t vs zs b) (w:World) :
 (Instr.typeAssert v xt t true).run P w=.ok (.tuple #[.agg vs.toArray,.bool b]) w:=by
 have a:=VW hi hz w;cases b with
 | true=>
  simp only[kC]at h;subst h;simp[Instr.typeAssert,run_underlying hu]
 | false=>
  simp only[kC]at h;obtain⟨rfl,h⟩:=h;rcases h with rfl|⟨t',u,rfl,hne⟩
  .simp[Instr.typeAssert,run_underlying hu,a]
  .simp[Instr.typeAssert,run_underlying hu,hne,a]
theorem WgN {P:Program}{op:BinOp}{t:Nat}{x y:Value}{K:Value->Prop}(h:mb P op t x y K)(w:World) :
 ∃v,(binOp op t x y).run P w=.ok v w/\K v:=by
 unfold mb at h;split at h
 case h_1 e p hu=>
  refine UP h w ?_ ?_
  .rintro op (rfl|rfl)<;>simp[binOp]
  .exact Fj hu p 9999 w
 case h_2 e p _ _ hu=>
  refine UP h w ?_ ?_
  .rintro op (rfl|rfl)<;>simp[binOp]
  .exact OO hu p _ _ 9999 w
 case h_3 e e' p hu=>
  refine UP h w ?_ ?_
  .rintro op (rfl|rfl)<;>simp[binOp]
  .exact Wk7 hu p 9999 w
 case h_4 ms hu=>
  obtain⟨hi,h⟩:=h;refine UP h w ?_ ?_
  .rcases hi with rfl|⟨t',u,rfl⟩<;>rintro op (rfl|rfl)<;>simp[binOp]
  .exact OA hu hi 9999 w
 .exact h.elim
theorem Ρ {P:Program}{op:BinOp}{t:Nat}{x y:Value}{K:Value->Prop}(h:mw P op t x y K)(w:World) :
 ∃v,(binOp op t x y).run P w=.ok v w/\K v:=by
 unfold mw at h;split at h
 case h_1 k a k' b=>
  split at h
  .rename_i e;subst e;exact WhO h w
  .cases op<;>simp only at h
   case shl=>simp only[qE,Ar,Nn]at h;obtain⟨d,g⟩:=h;exact⟨_,by simp[binOp,Op.shift,Int.not_lt.2 d],g⟩
   case shr=>simp only[qE,Ar,Nn]at h;obtain⟨d,g⟩:=h;exact⟨_,by simp[binOp,Op.shift,Int.not_lt.2 d],g⟩
 case h_2 a b=>
  split at h
  .rename_i hu;refine UP h w ?_ ?_
   .rintro op (rfl|rfl)<;>simp[binOp]
   .exact TC hu a b 9999 w
  .exact h.elim
 case h_3 a b=>
  cases op<;>simp only at h
  .exact⟨_,rfl,h⟩
  .exact⟨_,rfl,h⟩
 .exact h.elim
theorem BI {c:CK}{a:Addr}{h:Hp}{K:c.T->Prop}(hl:Ag c a h K):∃x,cell h a=some (c.v x)/\K x:=by
 cases c<;>exact hl
theorem CD {P:Program}{w:World}{a:Addr}{v:Value}(h:cell w.heap a=some v):(load a).run P w=.ok v w:=by
 have:w.cell? a=some v:=h;simp[this]
theorem DS {P:Program}{w:World}:∀{cs:List CK} {a:Addr} {i:Nat} {K:List Value->Prop},nZ cs a i w.heap K →
 ∃vs,vs.length=cs.length/\K vs/\∀acc,(loadCellsFrom a i cs.length acc).run P w=.ok (acc++vs.toArray) w
 | [],a,i,K,h=>⟨[],rfl,h,λacc=>by simp[loadCellsFrom]⟩
 | c::cs,a,i,K,h=>by
  obtain⟨x,hx,hK⟩:=BI h;obtain⟨vs,d,b,g⟩:=DS (P:=P) hK;refine⟨c.v x::vs,by simp[d],b,λacc=>?_⟩;simp only[zS,loadCellsFrom,Sem.run_bind,CD hx,Result.andThen_ok,g]
  congr 1
  apply Array.ext';simp
theorem Vu {P:Program}{t:Nat}{d:TypeDesc}(h:P.underlying t=some d)(w:World):(isAgg t).run P w=.ok (UW d) w:=by
 simp only[isAgg,Sem.run_bind,run_underlying h,Result.andThen_ok];cases d<;>rfl
theorem FO {P:Program}{t:Nat}{c:CK}(h:j0 P t=some (.one c)):∃d,P.underlying t=some d/\UW d=false:=by
 unfold j0 at h;split at h
 .rename_i d hd;refine⟨d,hd,?_⟩;cases e:UW d
  .rfl
  .rw[e]at h;simp at h
 .cases h
theorem FY {P:Program}{t:Nat}{c:List CK}(h:j0 P t=some (.agg c)):∃d,P.underlying t=some d/\UW d=true:=by
 unfold j0 at h;split at h
 .rename_i d hd;refine⟨d,hd,?_⟩;cases e:UW d
  .rw[e]at h;simp at h
  .rfl
 .cases h
theorem Wgn {P:Program}{t ty:Nat}{x:Value}{K:Value->Prop}{w:World}(h:lT P t x w.heap K) :
 ∃v,(Builtin.len_ #[t] ty #[x]).run P w=.ok v w/\K v:=by
 unfold lT at h;split at h
 case h_1 e a n c hu=>exact⟨_,by simp[Builtin.len_,run_underlying hu,goInt],h⟩
 case h_2 s hu=>exact⟨_,by simp[Builtin.len_,run_underlying hu,goInt],h⟩
 case h_3 n e y hu=>exact⟨_,by simp[Builtin.len_,run_underlying hu,goInt],h⟩
 case h_4 kt et m hu=>
  split at h
  case h_1 k c hk hs=>
   obtain⟨l,d,g⟩:=h;cases m with
   | none=>simp only[ju]at d;subst d;exact⟨_,by simp[Builtin.len_,run_underlying hu,goInt],g⟩
   | some r=>
    obtain⟨j,i,p,u,_⟩:=d;have b:j.size=l.length:=by simpa using congrArg List.length u
    refine⟨_,?_,g⟩;simp[Builtin.len_,run_underlying hu,goInt,getObj,Sem.run,p,b]
  .exact h.elim
 .exact h.elim
theorem Di {P:Program}{w:World}:∀{vs:List Value} {v:Value} {b:Bool} {K:Value->Prop},qk b v vs K →
 ∃z,(vs.foldlM (if b then Builtin.max2 else Builtin.min2) v).run P w=.ok z w/\K z
 | [],v,b,K,h=>⟨v,by simp,by simpa[qk]using h⟩
 | u::vs,v,b,K,h=>by
  cases v<;>cases u<;>simp only[qk]at h<;>try exact h.elim
  case int.int k x k' y=>
   obtain⟨z,hz,hK⟩:=Di h;refine⟨z,?_,hK⟩;cases b
   .simpa[Builtin.min2]using hz
   .simpa[Builtin.max2]using hz
theorem Qe {ρ:Env}{a:Act}(hf:∀x v,ev ρ x=some v->a.eval x=v):∀{os:List Operand} {vs:List Value},qR ρ os=some vs->os.map a.eval=vs
 | [],vs,h=>by simp[qR]at h;simp[h]
 | o::os,vs,h=>by
  simp only[qR]at h;split at h
  .rename_i v vs' h1 h2;cases h;simp[hf _ _ h1,Qe hf h2]
  .cases h
theorem UE {ρ:Env}{a:Act}(hf:∀x v,ev ρ x=some v->a.eval x=v):∀{os:List (Nat×Operand)} {vs:List (Nat×Value)},Gy ρ os=some vs->os.map (λ(i,x)=>(i,a.eval x))=vs
 | [],vs,h=>by simp[Gy]at h;simp[h]
 | (i,o)::os,vs,h=>by
  simp only[Gy]at h;split at h
  .rename_i v vs' h1 h2;cases h;simp[hf _ _ h1,UE hf h2]
  .cases h
theorem G5 {k:IntKind}{n:Int}{c:CK}:∀(es:List MapEntry) (l:List (Int×c.T)) (i:Nat),
 es.map (λe=>(e.key,e.val))=l.map (λx=>(Value.int k x.1,c.v x.2)) →
 Instr.findNow (.int k) (.int k n) es i=some (match l.findIdx? (λx=>x.1==n)with|some j=>some (i+j,match l[j]? with|some x=>c.v x.2|none=>undef)|none=>none)
 | [],l,i,h=>by
  cases l with
  | nil=>simp[Instr.findNow]
  | cons x l=>simp at h
 | e::es,[],i,h=>by simp at h
 | e::es,x::l,i,h=>by
  simp only[zR,List.cons.injEq,Prod.mk.injEq]at h;obtain⟨⟨h1,h2⟩,h3⟩:=h;have a:=G5 (n:=n) es l (i+1) h3;simp only[Instr.findNow,h1,Instr.sameNow,zT];by_cases hx:n=x.1
  .have e1:(n==x.1)=true:=by simpa using hx
   have e2:(x.1==n)=true:=by simpa using hx.symm
   simp[wW,e1,e2,h2]
  .have e1:(n==x.1)=false:=by simpa using hx
   have e2:(x.1==n)=false:=by simpa using λh=>hx h.symm
   simp only[e1,a,wW,e2];cases List.findIdx? (λx=>x.1==n) l with
   | none=>simp
   | some j=>simp;omega
theorem Vf {P:Program}{kt:Nat}{k:IntKind}(hk:P.underlying kt=some (.int k)){n:Int}{c:CK}{es:List MapEntry}{l:List (Int×c.T)}
 (he:es.map (λe=>(e.key,e.val))=l.map (λx=>(Value.int k x.1,c.v x.2))) (w:World) :
 (Instr.findKey kt (.int k n) es).run P w=.ok (match l.findIdx? (λx=>x.1==n)with|some j=>some (j,match l[j]? with|some x=>c.v x.2|none=>undef)|none=>none) w:=by
 simp[Instr.findKey,run_underlying hk,G5 es l 0 he]
theorem Mr {P:Program}{kt:Nat}{k:IntKind}(hk:P.underlying kt=some (.int k))(b:Bool)(n:Int)(d:Nat)(w:World) :
 (Instr.checkKey b (d+1) kt (.int k n)).run P w=.ok () w:=by
 simp[Instr.checkKey,run_underlying hk]
theorem Kh {P:Program}{kt:Nat}{k:IntKind}(hk:P.underlying kt=some (.int k))(b:Bool)(n:Int)(w:World) :
 (Instr.checkKey b 10000 kt (.int k n)).run P w=.ok () w:=Mr hk b n 9999 w
theorem R7 {α:Type}(l:List (Int×α))(n:Int):bS l n=(l.findIdx? (λx=>x.1==n)).bind λj=>(l[j]?).map (·.2):=by
 induction l with
 | nil=>rfl
 | cons x l ih=>
  simp only[bS,vH,wW]at *;cases h:x.1==n
  .simp only[ih];cases List.findIdx? (λx=>x.1==n) l<;>simp
  .simp
theorem U3 {α:Type}{l:List (Int×α)}{n:Int}{j:Nat}(h:l.findIdx? (λx=>x.1==n)=some j):∃x,l[j]?=some x/\x.1=n:=by
 rw[nV]at h;obtain⟨b,a,_⟩:=h;exact⟨l[j],by simp[b],by simpa using a⟩
theorem TA {P:Program}{t:Nat}{x i:Value}{ok:Bool}{K:Value->Prop}{w:World}(h:A3 P t x i ok w.heap K) :
 ∃v,(Instr.lookup t x i ok).run P w=.ok v w/\K v:=by
 unfold A3 at h;split at h
 case h_2=>exact h.elim
 rename_i kt et m k n hu;split at h
 case h_2=>exact h.elim
 rename_i k' c ti hk hs hi;split at h
 case h_2=>exact h.elim
 rename_i z hz;split at h
 case isFalse=>exact h.elim
 rename_i e;subst e;obtain⟨B,a,l,b,g⟩:=Uk h;refine⟨_,?_,g⟩;cases m with
 | none=>
  simp only[ju]at b;subst b;simp only[Instr.lookup,Sem.run_bind,run_underlying hu,Result.andThen_ok,Sem.run_pure,Kh hk,Vf (c:=c) (l:=[]) hk (rfl:List.map _ (#[]:Array MapEntry).toList=_),List.findIdx?_nil,VW hi hz];cases ok<;>simp[bS,a]
 | some r=>
  obtain⟨A,d,p,s,_⟩:=b;simp only[Instr.lookup,Sem.run_bind,run_underlying hu,Result.andThen_ok,Sem.run_pure,Kh hk,getObj,Sem.run,p,Vf hk s,R7];cases hf:l.findIdx? (λx=>x.1==n)with
  | none=>cases ok<;>simp[VW hi hz,a]
  | some j=>
   obtain⟨y,u,_⟩:=U3 hf;cases ok<;>simp[u]
theorem Fh (off:Nat):∀(vs:List Value) (k:Nat) (cs:Array Value),off+k+vs.length<=cs.size →
 ((vs.zipIdx k).foldl (λcs (c,j)=>cs.setIfInBounds (off+j) c) cs).toList=cs.toList.take (off+k)++vs++cs.toList.drop (off+k+vs.length)
 | [],k,cs,h=>by simp
 | v::vs,k,cs,h=>by
  simp only[List.zipIdx_cons,ry];rw[Fh off vs (k+1) _ (by simp only[Array.size_setIfInBounds,zS]at *;omega)];simp only[zS]at h;have hlt:off+k<cs.toList.length:=by simp;omega
  simp only[Array.toList_setIfInBounds,zS];apply zt;intro m;simp only[List.getElem?_append,zY,pH,zM,zm,nU,lK,List.getElem?_cons,zS]
  grind
theorem U9 (ZK:Nat->Option (Nat×Nat)):∀(ps:List (Nat×Value)) (cells:List Value) (cs:List Value),sK ZK cells ps=some cs->Instr.fill ZK cells.toArray ps=some cs.toArray
 | [],cells,cs,h=>by simp[sK]at h;simp[Instr.fill,h]
 | (i,v)::rest,cells,cs,h=>by
  simp only[sK]at h;simp only[Instr.fill];cases hp:ZK i with
  | none=>rw[hp]at h;cases h
  | some os=>
   obtain⟨off,size⟩:=os;rw[hp]at h;simp only at h ⊢;split at h
   .cases h
   .rename_i hc;simp only[not_or,Decidable.not_not,Nat.not_lt]at hc;obtain⟨a,b⟩:=hc;rw[zB (by simp[a];omega)];have:=Fh off v.cells.toList 0 cells.toArray aE;have e:(v.cells.zipIdx.foldl (λcs (c,j)=>cs.setIfInBounds (off+j) c) cells.toArray)=(cells.take off++v.cells.toList++cells.drop (off+size)).toArray:=by
     apply Array.ext';rw[←Array.foldl_toList,Array.toList_zipIdx,this];simp[a]
    rw[e];exact U9 ZK rest _ _ h
theorem ED {P:Program}{w:World}:∀(fs:List Field),(fs.all λf=>(P.info? f.type).isSome)=true →
 (fs.mapM λf=>(do pure (f.offset,←sizeOf f.type):Sem (Nat×Nat))).run P w=.ok (fs.map λf=>(f.offset,P.cellsOf f.type)) w
 | [],_=>by simp
 | f::fs,h=>by
  simp only[vp,zF]at h;have ih:=ED (P:=P) (w:=w) fs h.2;simp only[List.mapM_cons,Sem.run_bind,Kt h.1,Result.andThen_ok,Sem.run_pure,ih,zR]
theorem BG {raw:Nat->Bool}:∀{ps:List (Nat×Value)} {A:Prop},l9 raw ps A->A/\∀ZK cells,Instr.fill ZK cells (xy raw ps)=Instr.fill ZK cells ps
 | [],A,h=>⟨h,λ_ _=>rfl⟩
 | (i,v)::ps,A,h=>by
  simp only[l9]at h;cases hr:raw i
  .rw[hr]at h;obtain⟨hA,ih⟩:=BG h;exact⟨hA,λZK cells=>by simp only[xy,Instr.fill,ih,hr,cond_false]⟩
  .rw[hr]at h;simp only[cond_true]at h;obtain⟨hA,ih⟩:=BG h.2;have e:(Value.agg #[v]).cells=v.cells:=by
    rcases h.1 with rfl|⟨t,u,rfl⟩<;>rfl
   exact⟨hA,λZK cells=>by simp only[xy,Instr.fill,ih,hr,cond_true,e]⟩
theorem Sb {P:Program}{t:Nat}{ps:Array (Nat×Value)}{K:Value->Prop}{w:World}(h:nF P t ps.toList K) :
 ∃v,(Instr.build t ps).run P w=.ok v w/\K v:=by
 unfold nF at h;split at h
 case h_1 p fs hi hu=>
  split at h
  case h_2=>exact h.elim
  rename_i z hz;obtain⟨h,m⟩:=BG h;split at h
  case h_2=>exact h.elim
  rename_i cs hf;rw[WJ]at h;obtain⟨a,r⟩:=h;refine⟨_,?_,r⟩;have u:=ED (P:=P) (w:=w) fs.toList a;have d:(fs.mapM λf=>(do pure (f.offset,←sizeOf f.type):Sem (Nat×Nat))).run P w=.ok (fs.map λf=>(f.offset,P.cellsOf f.type)) w:=by
   rw[Array.mapM_eq_mapM_toList];simp only[Sem.run_map,u,Result.andThen_ok]
   congr 1
   apply Array.ext';simp
  have j:(λi=>(fs.map λf=>(f.offset,P.cellsOf f.type))[i]?)=BM P fs:=by
   funext i
   simp only[BM,Array.getElem?_map];cases hfi:fs[i]? with
   | none=>simp
   | some f=>
    have b:f∈fs.toList:=by
     have:=AN hfi;simpa using this
    have:=kF.1 a f b;obtain⟨p,g⟩:=pv.1 this;simp[g,Program.cellsOf]
  have:=U9 _ _ _ _ hf;rw[m]at this;simp only[Instr.build,Sem.run_bind,VW hi hz,Result.andThen_ok,run_underlying hu,d,j];have e:z.cells.toList.toArray=z.cells:=by simp
  rw[e]at this;simp[this]
 case h_2 p n e hi hu=>
  split at h
  case h_2=>exact h.elim
  rename_i z te hz hte;split at h
  case h_2=>exact h.elim
  rename_i cs hf;refine⟨_,?_,h⟩;have:=U9 _ _ _ _ hf;have e1:z.cells.toList.toArray=z.cells:=by simp
  rw[e1]at this;have s:(sizeOf e).run P w=.ok te.size w:=by simp[sizeOf,Uw hte]
  simp only[Instr.build,Sem.run_bind,VW hi hz,Result.andThen_ok,run_underlying hu,s];simp[this]
 .exact h.elim
theorem WA {o:Option Value}{K:Value->Prop}(h:wv o K):∃v,o=some v/\K v:=by
 cases o with
 | none=>exact h.elim
 | some v=>exact⟨v,rfl,h⟩
theorem Pb {P:Program}{t off:Nat}{cs:Array Value}{K:Value->Prop}{w:World}(h:wG P t cs.toList off K) :
 ∃v,(part t cs off).run P w=.ok v w/\K v:=by
 unfold wG at h;split at h
 case h_2=>exact h.elim
 rename_i d ti hu hi;cases hd:UW d
 .rw[hd]at h;obtain⟨v,b,a⟩:=WA h;refine⟨v,?_,a⟩;have:cs[off]?=some v:=by simpa using b
  simp[part,Vu hu,hd,this]
 .rw[hd]at h;refine⟨_,?_,h⟩;simp only[part,Sem.run_bind,Vu hu,hd,Result.andThen_ok,sizeOf,Uw hi,zT,Sem.run_pure]
  congr 2
  apply Array.ext';simp
theorem KZ {P:Program}{w:World}{z:Int}{y:Nat}{code:BoundsCode}(h0:0<=z)(h1:z<=y):(Instr.sliceBound (.int .i64 z) y code).run P w=.ok z.toNat w:=by
 simp[Instr.sliceBound,asIntOf,h0,h1]
theorem JE {o:Option Value}{d l:Int}(h:(match o with|none=>some d|some (.int .i64 z)=>some z|_=>none)=some l):(o=none/\l=d)\/o=some (.int .i64 l):=by
 split at h
 .simp at h;exact .inl ⟨rfl,h.symm⟩
 .simp at h;subst h;exact .inr rfl
 .cases h
theorem Tr {P:Program}{t:Nat}{x:Value}{lo hi mx:Option Value}{K:Value->Prop}{w:World}(h:nK P t x lo hi mx K) :
 ∃v,(Instr.sliceAt t x lo hi mx).run P w=.ok v w/\K v:=by
 unfold nK at h;split at h
 case h_2=>exact h.elim
 rename_i e a n c hu;split at h
 case h_2=>exact h.elim
 rename_i ti hi';simp only at h;split at h
 case h_2=>exact h.elim
 rename_i l hh m hlo hhi hmx;obtain⟨p,u,A,g,i⟩:=h;refine⟨_,?_,i⟩;simp only at g;have b:(sizeOf e).run P w=.ok ti.size w:=by simp[sizeOf,Uw hi']
 have s:(Instr.sliceBounds true n c lo hi mx).run P w=.ok (l.toNat,hh.toNat,m.toNat) w:=by
  have j:(mx=none/\m=c)\/(mx=some (.int .i64 m)/\hi≠none):=by
   split at hmx
   .simp at hmx;exact .inl ⟨rfl,hmx.symm⟩
   .simp at hmx;subst hmx;exact .inr ⟨rfl,by simp⟩
   .cases hmx
  have r:=JE hlo;have d:=JE hhi;clear hlo hhi hmx;rcases j with⟨rfl,rfl⟩|⟨rfl,hne⟩<;>rcases d with⟨rfl,rfl⟩|rfl
  case inr.inl=>exact absurd rfl hne
  all_goals rcases r with⟨rfl,rfl⟩|rfl
  .simp[Instr.sliceBounds]
  .have:=KZ (P:=P) (w:=w) (z:=l) (y:=n) (code:=.sliceB) p O;simp[Instr.sliceBounds,this]
  .have:=KZ (P:=P) (w:=w) (z:=hh) (y:=c) (code:=.sliceAcap) O O;simp[Instr.sliceBounds,this]
  .have:=KZ (P:=P) (w:=w) (z:=hh) (y:=c) (code:=.sliceAcap) O O;have:=KZ (P:=P) (w:=w) (z:=l) (y:=hh.toNat) (code:=.sliceB) O O;simp[Instr.sliceBounds, *]
  .have:=KZ (P:=P) (w:=w) (z:=m) (y:=c) (code:=.slice3Acap) O O;have:=KZ (P:=P) (w:=w) (z:=hh) (y:=m.toNat) (code:=.slice3B) O O;simp[Instr.sliceBounds, *]
  .have:=KZ (P:=P) (w:=w) (z:=m) (y:=c) (code:=.slice3Acap) O O;have:=KZ (P:=P) (w:=w) (z:=hh) (y:=m.toNat) (code:=.slice3B) O O;have:=KZ (P:=P) (w:=w) (z:=l) (y:=hh.toNat) (code:=.slice3C) O O;simp[Instr.sliceBounds, *]
 simp only[Instr.sliceAt,Instr.slice,Sem.run_bind,run_underlying hu,Result.andThen_ok,s,b,Sem.run_pure]
theorem Ie {P:Program}{op:BinOp}{t:Nat}{x y:Operand}{a b:Value}(w:World)(h:(∀cs,a≠.agg cs)/\a≠.nilIface):(eqGuard op t x y a b).run P w=.ok () w:=by
 unfold eqGuard;cases op<;>simp
 all_goals (cases a<;>first|rfl | (simp at h))
theorem ζ {P:Program}{op:BinOp}{t:Nat}{x y:Value}{K:Value->Prop}(h:mw P op t x y K):(∀cs,x≠.agg cs)/\x≠.nilIface:=by
 unfold mw at h;split at h<;>first|exact absurd h id | (constructor<;>simp)
theorem OE {P:Program}{op:BinOp}{t:Nat}{x y:Value}{K:Value->Prop}(h:mb P op t x y K):∀cs,x≠.agg cs:=by
 unfold mb at h;split at h
 case h_4=>rcases h.1 with rfl|⟨t',u,rfl⟩<;>simp
 all_goals first|exact absurd h id|simp
theorem ON {P:Program}{op:BinOp}{t:Nat}{x:Operand}{c:Value}{a b:Value}(w:World)(h:∀cs,a≠.agg cs):(eqGuard op t x (.const c) a b).run P w=.ok () w:=by
 unfold eqGuard;cases op<;>simp
 all_goals (cases a<;>first|rfl|exact absurd rfl (h _) | (cases b<;>simp))
theorem M3 {y:Operand}(h:uj y=true):∃c,y=.const c:=by
 unfold uj at h;split at h<;>first|exact⟨_,rfl⟩|cases h
theorem A0 {P:Program}{s f:Nat}{K:Field->Prop}(h:nH P s f K):∃fs fd,P.underlying s=some (.struct fs)/\fs[f]?=some fd/\K fd:=by
 unfold nH at h;split at h
 .split at h
  .exact⟨_,_,by assumption,by assumption,h⟩
  .exact h.elim
 .exact h.elim
theorem PB {P:Program}{t:Nat}(h:P.cellsOf t≠0):(P.info? t).isSome=true:=by
 unfold Program.cellsOf at h;cases hi:P.info? t with
 | none=>rw[hi]at h;simp at h
 | some i=>rfl
theorem BP {ρ:Env}{a:Act}(hf:∀x v,ev ρ x=some v->a.eval x=v){o:Option Operand}{v:Option Value}(h:vW ρ o=some v):o.map a.eval=v:=by
 cases o with
 | none=>simp[vW]at h;simp[h]
 | some o=>
  simp only[vW,oy]at h;obtain⟨u,b,rfl⟩:=h;simp[hf _ _ b]
theorem VV {P:Program}{t:Nat}{d:TypeDesc}{cs:Array Value}{off:Nat}{v:Value}{w:World}(hd:P.underlying t=some d)(hag:UW d=false)(h:cs.toList[off]?=some v):(part t cs off).run P w=.ok v w:=by
 have a:cs[off]?=some v:=by simpa using h
 simp[part,Vu hd,hag,a]
theorem B3 {P:Program}{xs ys:Array Value}(d:Nat):∀(fs:List Field) (b:Bool),pD P xs.toList ys.toList fs=some b->∀w,(Op.eqFields (d+1) xs ys fs).run P w=.ok b w
 | [],b,h,w=>by simp[pD]at h;subst h;simp[Op.eqFields]
 | f::fs,b,h,w=>by
  simp only[pD]at h;cases hn:f.name == "_"
  .rw[hn]at h;simp only[cond_false]at h;have hne:f.name ≠ "_" := by simpa using hn
   split at h
   .rename_i k0 k a k' b' r hu hx hy hr;split at h
    case isFalse=>cases h
    rename_i e;subst e;simp only[Option.some.injEq]at h;subst h;have ih:=B3 (d:=d) fs r hr w;simp only[Op.eqFields,hne,ne_eq,not_false_eq_true,zT,Sem.run_bind,VV hu rfl hx,VV hu rfl hy,Result.andThen_ok,run_equalIn_int w d f.type k k0 a b' hu];cases hab:a==b'<;>simp[ih]
   .rename_i a b' r hu hx hy hr;simp only[Option.some.injEq]at h;subst h;have ih:=B3 (d:=d) fs r hr w;simp only[Op.eqFields,hne,ne_eq,not_false_eq_true,zT,Sem.run_bind,VV hu rfl hx,VV hu rfl hy,Result.andThen_ok,run_equalIn_bool' w d f.type a b' hu];cases hab:a==b'<;>simp[ih]
   .cases h
  .rw[hn]at h;cases h
theorem B1 {P:Program}{e:TypeId}(hC:P.cellsOf e=1){xs ys:Array Value}(d:Nat):∀(is:List Nat) (b:Bool),qu P e xs.toList ys.toList is=some b->∀w,(Op.eqItems (d+1) e (P.cellsOf e) xs ys is).run P w=.ok b w
 | [],b,h,w=>by simp[qu]at h;subst h;simp[Op.eqItems]
 | i::is,b,h,w=>by
  simp only[qu]at h;split at h
  .rename_i k0 k a k' b' r hu hx hy hr;split at h
   case isFalse=>cases h
   rename_i e';subst e';simp only[Option.some.injEq]at h;subst h;have ih:=B1 hC d is r hr w;simp only[Op.eqItems,hC,nL,Sem.run_bind,VV hu rfl hx,VV hu rfl hy,Result.andThen_ok,run_equalIn_int w d e k k0 a b' hu];rw[hC]at ih;cases hab:a==b'<;>simp[ih]
  .rename_i t0 p r hu hx hy hr;simp only[Option.some.injEq]at h;subst h;have ih:=B1 hC d is r hr w;simp only[Op.eqItems,hC,nL,Sem.run_bind,VV hu rfl hx,VV hu rfl hy,Result.andThen_ok,Fj hu p d w];rw[hC]at ih;cases hab:p.isNone<;>simp[ih]
  .cases h
theorem Ol {P:Program}{op:BinOp}{t:Nat}{xs ys:Array Value}{K:Value->Prop}(h:nE P op t xs.toList ys.toList K)(x y:Operand)(w:World) :
 ∃v,(do eqGuard op t x y (.agg xs) (.agg ys);binOp op t (.agg xs) (.agg ys):Sem Value).run P w=.ok v w/\K v:=by
 have fin:∀b:Bool,(Op.equalIn 10000 t (.agg xs) (.agg ys)).run P w=.ok b w->P.eqGuardType P.depth t=false->nD op b K →
  ∃v,(do eqGuard op t x y (.agg xs) (.agg ys);binOp op t (.agg xs) (.agg ys):Sem Value).run P w=.ok v w/\K v:=by
  intro b a hgt h;have j:=run_eqGuard_agg (P:=P) w op t x y xs ys hgt;cases op<;>simp only[nD]at h
  .exact⟨_,by simp only[Sem.run_bind,j,Result.andThen_ok,run_eql_struct,a],h⟩
  .exact⟨_,by simp only[Sem.run_bind,j,Result.andThen_ok,run_neq_struct,a],h⟩
 unfold nE at h;split at h
 case h_1 fs hu=>
  rw[WJ]at h;obtain⟨d,h⟩:=h;simp only[zF,mJ]at d;split at h
  case h_2=>exact h.elim
  rename_i b hb;have g:P.fieldsOf t=fs:=by simp[Program.fieldsOf,hu]
  have a:(Op.equalIn 10000 t (.agg xs) (.agg ys)).run P w=.ok b w:=by
   have:=run_equalIn_struct (P:=P) w 9999 t xs ys (by rw[g];exact hu) d.1;rw[g]at this;exact this.trans (B3 9998 fs.toList b hb w)
  exact fin b a d.2 h
 case h_2 n e hu=>
  rw[WJ]at h;obtain⟨d,h⟩:=h;simp only[zF,mJ,zU]at d;split at h
  case h_2=>exact h.elim
  rename_i b hb;obtain⟨i,hi⟩:=pv.1 d.2.1;exact fin b ((run_equalIn_array (P:=P) w 9999 xs ys hu hi).trans (B1 d.2.2 9998 _ b hb w)) d.1 h
 case h_3=>exact h.elim
theorem M6 {P:Program}{op:BinOp}{t:Nat}{p q:Option Addr}{K:Value->Prop}{w:World}(h:rY P op t p q w.heap K):∃v,(binOp op t (.pointer p) (.pointer q)).run P w=.ok v w/\K v:=by
 unfold rY at h;split at h
 case h_2=>exact h.elim
 rename_i e hu;rw[WJ]at h;obtain⟨r,h⟩:=h;simp only[zF,bne_iff_ne,ne_eq]at r;obtain⟨i,hi⟩:=pv.1 r.1;have j:i.size≠0:=by have:=r.2;simp only[Program.cellsOf,hi]at this;exact this
 have key:∀(K:Bool->Prop),y6 w.heap p q K->∃b,(∀d:Nat,(Op.equalIn (d+1) t (.pointer p) (.pointer q)).run P w=.ok b w)/\K b:=λK g=>by
  cases p with
  | none=>exact⟨_,λd=>by simp[Op.equalIn,run_underlying hu],g⟩
  | some a=>
   cases q with
   | none=>exact⟨_,λd=>by simp[Op.equalIn,run_underlying hu],g⟩
   | some b=>
    unfold y6 at g;simp only at g;by_cases hab:a=b
    .subst hab;rw[zC rfl]at g;exact⟨true,λd=>by simp[Op.equalIn,run_underlying hu,sizeOf,typeInfo,hi,run_sameAddr_same,j],g⟩
    .rw[zB hab]at g;obtain⟨⟨⟨y,z,u⟩,A,tb,x⟩,m⟩:=g;exact⟨false,λd=>by simp[Op.equalIn,run_underlying hu,sizeOf,typeInfo,hi,j,run_sameAddr_other w hab u x],m⟩
 cases op<;>simp only at h
 case eql=>
  obtain⟨b,s,m⟩:=key _ h;exact⟨_,by simp only[binOp];simp[Op.equal,Op.maxDepth,s 9999],m⟩
 case neq=>
  obtain⟨b,s,m⟩:=key _ h;exact⟨_,by simp only[binOp];simp[Op.equal,Op.maxDepth,s 9999],m⟩
theorem Aj {P:Program}{ρ:Env}{K:Value->Prop}{a:Act}{w:World}(hf:∀x v,ev ρ x=some v->a.eval x=v)(o:Oper)(hk:qK P o.op ρ w.heap K) :
 ∃v,(execOp a.eval o).run P w=.ok (.value v) w/\K v:=by
 obtain⟨dst,op,ty,pos,V,W⟩:=o;simp only at hk;have j:∀{s:Sem Value},(∃v,s.run P w=.ok v w/\K v)->∃v,(do pure (Next.value (←s)):Sem Next).run P w=.ok (.value v) w/\K v:=by
  rintro s ⟨v,p,g⟩;exact⟨v,by simp[p],g⟩
 unfold qK at hk;split at hk
 case h_1 x=>
  obtain⟨v,p,g⟩:=WA hk;exact⟨v,by simp[execOp,hf _ _ p],g⟩
 case h_2 x=>
  obtain⟨v,p,g⟩:=WA hk;exact⟨v,by simp[execOp,hf _ _ p],g⟩
 case h_3 c x y=>
  obtain⟨v,p,g⟩:=WA hk;split at g
  .obtain⟨u,B,g⟩:=WA g;exact⟨u,by simp[execOp,hf _ _ p,asBool,hf _ _ B],g⟩
  .obtain⟨u,B,g⟩:=WA g;exact⟨u,by simp[execOp,hf _ _ p,asBool,hf _ _ B],g⟩
  .exact g.elim
 case h_4 t x=>
  obtain⟨v,p,g⟩:=WA hk;simp only[execOp,hf _ _ p];apply j;split at g
  case h_1 L c F=>
   rw[WJ]at g;obtain⟨d,hd,H⟩:=FO F;obtain⟨x,r,g⟩:=BI g.2;exact⟨_,by simp only[Instr.loadAt,Instr.sureAddr,loadVar,Sem.run_bind,Sem.run_pure,Result.andThen_ok,Vu hd,H];simpa using CD r,g⟩
  case h_2 L S F=>
   rw[WJ,WJ]at g;obtain⟨z,A,g⟩:=g;obtain⟨d,hd,H⟩:=FY F;obtain⟨vs,hl,g,Y⟩:=DS (P:=P) g;have Z:P.cellsOf t=S.length:=by simpa using z
   refine⟨_,?_,g⟩;simp only[Instr.loadAt,Instr.sureAddr,loadVar,Sem.run_bind,Sem.run_pure,Result.andThen_ok,Vu hd,H,zT,Kt A,loadCells,Z,Y];simp
  .exact g.elim
 case h_5 x=>
  obtain⟨v,p,g⟩:=WA hk;simp only[execOp,hf _ _ p];split at g
  .obtain⟨L,rfl,g⟩:=g;exact⟨_,by simp,g⟩
  .exact⟨_,by simp,g⟩
  .exact g.elim
 case h_6 op t x y yt=>
  obtain⟨E,r,hk⟩:=WA hk;obtain⟨vy,hy,hk⟩:=WA hk;simp only[execOp,hf _ _ r,hf _ _ hy];apply j;unfold wT at hk;cases hn:uj y
  .rw[hn]at hk;simp only[cond_false]at hk;split at hk
   .exact Ol hk x y w
   .obtain⟨v,p,g⟩:=M6 hk;exact⟨v,by simp[Ie (x:=x) (y:=y) (a:=.pointer _) (b:=.pointer _) w ⟨λS e=>(by cases e),λe=>(by cases e)⟩,p],g⟩
   obtain⟨v,p,g⟩:=Ρ hk w;exact⟨v,by simp[Ie w (ζ hk),p],g⟩
  .rw[hn]at hk;simp only[cond_true]at hk;obtain⟨v,p,g⟩:=WgN hk w;obtain⟨c,hc⟩:=M3 hn;have hg:=ON (P:=P) (op:=op) (t:=t) (x:=x) (c:=c) (b:=vy) w (OE hk);exact⟨v,by rw[hc];simp[hg,p],g⟩
 case h_7 op ty' x=>
  obtain⟨E,r,hk⟩:=WA hk;simp only[execOp,hf _ _ r];apply j;split at hk
  .exact⟨_,by simp[Op.unary],hk⟩
  .exact⟨_,by simp[Op.unary,Op.intArith],hk⟩
  .exact hk.elim
 case h_8 s d x=>
  obtain⟨E,r,hk⟩:=WA hk;simp only[execOp,hf _ _ r];apply j;split at hk
  .rename_i z A;exact⟨_,by simp[convert,run_underlying z,run_underlying A,Conv.intToInt],hk⟩
  .rename_i z A;exact⟨_,by simp[convert,run_underlying z,run_underlying A],hk⟩
  .rename_i z A;split at hk
   .rename_i B;obtain⟨b,Y,g⟩:=Tn (P:=P) hk;exact⟨_,by simpa[convert,run_underlying z,run_underlying A,run_underlying B]using Y,g⟩
   .exact hk.elim
  .exact hk.elim
 case h_9 s x f=>
  obtain⟨E,r,hk⟩:=WA hk;obtain⟨fs,fd,F,G,hk⟩:=A0 hk;simp only[execOp,hf _ _ r];apply j;split at hk
  .rename_i L;rw[WJ]at hk;have Q:P.cellsOf fd.type≠0:=by simpa using hk.1
   refine⟨_,?_,hk.2⟩;simp only[Instr.fieldAt,Sem.run_bind,run_underlying F,Result.andThen_ok,G,Instr.sureAddr,Sem.run_pure,fieldPlace,Kt (PB Q),Q,jV]
  .exact hk.elim
 case h_10 s x f=>
  obtain⟨E,r,hk⟩:=WA hk;obtain⟨fs,fd,F,G,hk⟩:=A0 hk;simp only[execOp,hf _ _ r];apply j;split at hk
  .rename_i S;obtain⟨v,p,g⟩:=Pb (w:=w) hk;refine⟨v,?_,g⟩;simp only[Instr.field,Sem.run_bind,run_underlying F,Result.andThen_ok,G,asAgg,Sem.run_pure,p]
  .exact hk.elim
 case h_11 t x i=>
  obtain⟨E,r,hk⟩:=WA hk;obtain⟨vi,hi,hk⟩:=WA hk;simp only[execOp,hf _ _ r,hf _ _ hi];apply j;split at hk
  .have B:=(by assumption:P.underlying t=some _);rw[WJ]at hk;obtain⟨z,L,rfl,A,R,g⟩:=hk;refine⟨_,?_,g⟩;simp[Instr.indexAt,asIntOf,run_underlying B,Kt z,A,R]
  .have B:=(by assumption:P.underlying t=some _);rw[WJ]at hk;obtain⟨z,A,R,g⟩:=hk;refine⟨_,?_,g⟩;simp[Instr.indexAt,asIntOf,run_underlying B,Kt z,A,R,Instr.sureAddr]
  .exact hk.elim
 case h_12 t x i=>
  obtain⟨E,r,hk⟩:=WA hk;obtain⟨vi,hi,hk⟩:=WA hk;simp only[execOp,hf _ _ r,hf _ _ hi];apply j;split at hk
  .have B:=(by assumption:P.underlying t=some _);obtain⟨b,z,A,g⟩:=hk;refine⟨_,?_,g⟩;simp[Instr.index,asIntOf,run_underlying B,z,A]
  .exact hk.elim
 case h_13 t x i ok=>
  obtain⟨E,r,hk⟩:=WA hk;obtain⟨vi,hi,hk⟩:=WA hk;simp only[execOp,hf _ _ r,hf _ _ hi];exact j (TA hk)
 case h_14 t i=>
  obtain⟨E,r,hk⟩:=WA hk;simp only[execOp,hf _ _ r];apply j;split at hk
  .obtain⟨v,p,g⟩:=WA hk;have N:=p;rw[Az]at N;exact⟨v,by simp[Instr.extract,N],g⟩
  .exact hk.elim
 case h_15 fn x y=>
  split at hk
  .rename_i va vb z A;have e1:=Qe hf z;have e2:=Qe hf A;refine⟨_,?_,hk⟩;have J:x.map a.eval=va.toArray:=by apply Array.ext';simpa using e1
   have X:y.map a.eval=vb.toArray:=by apply Array.ext';simpa using e2
   simp[execOp,Instr.makeFunc,J,X]
  .exact hk.elim
 case h_16 t ps=>
  split at hk
  .rename_i vs z;have e1:=UE hf z;have J:ps.map (λ(i,x)=>(i,a.eval x))=vs.toArray:=by apply Array.ext';simpa using e1
   simp only[execOp];apply j;rw[J];exact Sb (by simpa using hk)
  .exact hk.elim
 case h_17 t x lo hi mx=>
  obtain⟨E,r,hk⟩:=WA hk;simp only[execOp,hf _ _ r];apply j;split at hk
  .rename_i l h m z A R;rw[BP hf z,BP hf A,BP hf R];exact Tr hk
  .exact hk.elim
 case h_18 t x=>
  obtain⟨E,r,hk⟩:=WA hk;rw[WJ]at hk;simp only[execOp,hf _ _ r];exact⟨_,by simp[run_makeInterface w t E hk.1],hk.2⟩
 case h_19 x xt t=>
  obtain⟨E,r,hk⟩:=WA hk;simp only[execOp,hf _ _ r];apply j;split at hk
  case h_2=>exact hk.elim
  rename_i fs ti S B hi F;split at hk
  case h_2=>exact hk.elim
  rename_i zs hz;obtain⟨vs,b,p,g⟩:=hk.out;exact⟨_,Sc B hi (by simpa using hz) p w,g⟩
 case h_20 c=>
  obtain⟨U,D,M⟩:=c;simp only at hk;split at hk
  .rename_i x t ha ht;have C:=Qe hf ha;have e1:D.map a.eval = #[x]:=by apply Array.ext';simpa using C
   have e2:M = #[t]:=by apply Array.ext';simpa using ht
   subst e2;obtain⟨v,p,g⟩:=Wgn (ty:=ty) hk;refine⟨v,?_,g⟩;simp[execOp,resolve,e1,invoke,builtin,p]
  .rename_i L l n t ha ht;have C:=Qe hf ha;have e1:D.map a.eval = #[.slice L l n]:=by apply Array.ext';simpa using C
   have e2:M = #[t]:=by apply Array.ext';simpa using ht
   subst e2;split at hk
   .rename_i B;refine⟨_,?_,hk⟩;simp[execOp,resolve,e1,invoke,builtin,Builtin.cap_,run_underlying B,goInt]
   .exact hk.elim
  .rename_i x xs ha;have C:=Qe hf ha;have e1:D.map a.eval=(x::xs).toArray:=by apply Array.ext';simpa using C
   obtain⟨v,p,g⟩:=Di (P:=P) (w:=w) hk;refine⟨v,?_,g⟩;simp only[zT]at p;simp[execOp,resolve,e1,invoke,builtin,Builtin.max_,p]
  .rename_i x xs ha;have C:=Qe hf ha;have e1:D.map a.eval=(x::xs).toArray:=by apply Array.ext';simpa using C
   obtain⟨v,p,g⟩:=Di (P:=P) (w:=w) hk;refine⟨v,?_,g⟩;simp only[za,jV]at p;simp[execOp,resolve,e1,invoke,builtin,Builtin.min_,p]
  .exact hk.elim
 .exact hk.elim
def nO (P:Program):List TypeId->Option (List SK)
 | []=>some []
 | t::ts=>match j0 P t,nO P ts with|some s,some ss=>some (s::ss)|_,_=>none
def Ut (P:Program)(f:Nat):Bool:=
 match P.funcs[f]? with
 | some fn=>!(fn.name == "runtime.NumGoroutine") && fn.body.isSome
 | none=>false
def uS (P:Program)(f:Nat)(args:List Value)(h:Hp)(K:aO):Prop:=
 ∀w:World,w.heap=h->∃b w',(callFunc f args.toArray).run P w=.ok (.value (.bool b)) w'/\Xx w w'/\K b w'.heap
def Cg (P:Program)(f:Nat)(args:List Value)(h:Hp)(K:Value->Hp->Prop):Prop:=
 match P.funcs[f]? with
 | some fn=>match nO P fn.resultTypes.toList with
  | some rs=>match Ut P f with
   | true=>Wg P f args.toArray rs h (lam (fA rs) λvs h'=>K (pack rs vs) h')
   | false=>match rs with
    | [.one .b]=>uS P f args h λb h'=>K (.bool b) h'
    | _=>False
  | none=>False
 | none=>False
def Cu (P:Program)(v:Value)(name:String)(args:List Value)(ty:TypeId)(h:Hp)(K:Value->Hp->Prop):Prop:=
 match (match P.underlying ty with|some (.tuple ts)=>nO P ts.toList|_=>nO P [ty])with
 | some rs=>je P v name args rs h (lam (fA rs) λvs h'=>K (pack rs vs) h')
 | none=>False
def Dk (P:Program)(fv:Fv):Prop:=Ut P fv.f=true
def VP (P:Program)(fv:Fv)(args:List Value)(rs:List SK)(h:Hp)(R:eR (fA rs)):Prop:=
 Dk P fv/\Fg P fv args rs h R
def Eo (P:Program)(fv:Fv)(args:List Value)(ty:TypeId)(h:Hp)(K:Value->Hp->Prop):Prop:=
 match (match P.underlying ty with|some (.tuple ts)=>nO P ts.toList|_=>nO P [ty])with
 | some rs=>VP P fv args rs h (lam (fA rs) λvs h'=>K (pack rs vs) h')
 | none=>False
def BJ (a:Addr)(vs:List Value)(h:Hp)(K:aP):Prop:=
 match vs with
 | [v]=>dG a v h K
 | vs=>qA a h vs 0 K
def tu (P:Program)(t:TypeId)(K:IntKind->CK->Prop):Prop:=
 match P.underlying t with
 | some (.map kt et)=>match P.underlying kt,oR P et with
  | some (.int k),some (.one c)=>K k c
  | _,_=>False
 | _=>False
def Cs (P:Program)(t:TypeId)(len:Nat)(ps:List (Nat×Value))(K:TypeId->List Value->Prop):Prop:=
 match P.underlying t with
 | some (.slice e)=>match P.info? e with
  | some te=>match te.zero with
   | some z=>match len,ps with
    | 0,[]=>K e []
    | 0,_::_=>False
    | len+1,ps=>fU (Nat.ble ((len+1)*te.size) 16777216&&Nat.blt 0 ((len+1)*te.size)&&z.cells.size==te.size)
     (match sK (λi=>some (i*te.size,te.size)) (List.replicate (len+1) z.cells.toList).flatten ps with
     | some cs=>K e cs
     | none=>False)
   | none=>False
  | none=>False
 | _=>False
def eK (P:Program)(o:Op)(ty:TypeId)(ρ:Env)(h:Hp)(K:Value->Hp->Prop):Prop:=
 match o with
 | .store t a x=>wv (ev ρ a) λva=>wv (ev ρ x) λvx=>match va with
  | .pointer (some a)=>bif yg P t then fU ((P.info? t).isSome&&P.cellsOf t==1) (jd vx/\dG a vx h λh'=>K undef h')
   else fU ((P.info? t).isSome&&vx.cells.size==P.cellsOf t) (Aw vx.cells.toList (BJ a vx.cells.toList h λh'=>K undef h'))
  | _=>False
 | .alloc e=>match P.info? e with
  | some te=>match te.zero with
   | some z=>Nw (.cells z.cells e (0,0)) h λa h'=>K (.pointer (some a)) h'
   | none=>False
  | none=>False
 | .box e x=>wv (ev ρ x) λv=>bif yg P e then jd v/\Nw (.cells #[v] e (0,0)) h λa h'=>K (.pointer (some a)) h' else Nw (.cells v.cells e (0,0)) h λa h'=>K (.pointer (some a)) h'
 | .buildSlice t len ps=>match Gy ρ ps.toList with
  | some vs=>Cs P t len vs λe cs=>Nw (.cells cs.toArray e (0,0)) h λa h'=>K (.slice (some a) len len) h'
  | none=>False
 | .makeMap t r=>match r with
  | none=>Nw (.map #[] 0) h λa h'=>K (.map (some a.block)) h'
  | some _=>False
 | .makeSlice t l c=>wv (ev ρ l) λvl=>wv (ev ρ c) λvc=>match P.underlying t,vl,vc with
  | some (.slice e),.int .i64 n,.int .i64 m=>match P.info? e with
   | some te=>match te.zero with
    | some z=>fU (z.cells.size==te.size&&Nat.blt 0 te.size) (Mk n m te.bytes e z.cells.toList h λs h'=>K (.slice s.a s.len s.cap) h')
    | none=>False
   | none=>False
  | _,_,_=>False
 | .range t x=>wv (ev ρ x) λv=>tu P t λki c=>match v with
  | .map m=>pF ki c m h λa h'=>K (.pointer (some a)) h'
  | _=>False
 | .mapUpdate t m k x=>wv (ev ρ m) λvm=>wv (ev ρ k) λvk=>wv (ev ρ x) λvx=>tu P t λki c=>match vm,vk with
  | .map m,.int k' n=>if ki=k' then ni c vx λx=>kS ki c m n x h λh'=>K undef h' else False
  | _,_=>False
 | .call c=>match c.callee,qR ρ c.args.toList,c.argTypes.toList with
  | .value (.func f),some args,_=>Cg P f args h K
  | .value g,some args,_=>wv (ev ρ g) λvg=>ni .fn vg λfv=>Eo P fv args ty h K
  | .invoke r name,some args,_=>wv (ev ρ r) λvr=>Cu P vr name args ty h K
  | .builtin .append,some [.slice sa sn sc,.slice xa xn xc],[t,t']=>match P.underlying t with
   | some (.slice e)=>match P.info? e with
    | some te=>match te.zero with
     | some z=>fU (Nat.beq t t'&&z.cells.size==te.size&&Nat.blt 0 te.size) (App ⟨sa,sn,sc⟩ te.size te.bytes e z.cells.toList ⟨xa,xn,xc⟩ h λs h'=>K (.slice s.a s.len s.cap) h')
     | none=>False
    | none=>False
   | _=>False
  | .builtin .delete,some [.map m,.int k' n],t::_=>tu P t λki c=>if ki=k' then l5 ki c m n h λh'=>K (.tuple #[]) h' else False
  | .builtin .append,some [.slice sa sn sc,.int .i64 n],[t,t']=>match P.underlying t,P.underlying t' with
   | some (.slice e),some (.int _)=>match P.info? e with
    | some te=>match te.zero with
     | some z=>fU (z.cells.size==te.size&&Nat.blt 0 te.size) (uh ⟨sa,sn,sc⟩ te.size te.bytes e z.cells.toList n h λs h'=>K (.slice s.a s.len s.cap) h')
     | none=>False
    | none=>False
   | _,_=>False
  | .builtin .copy,some [.slice da dn dc,.slice xa xn xc],t::_=>match P.underlying t with
   | some (.slice e)=>match P.info? e with
    | some te=>sF ⟨da,dn,dc⟩ te.size ⟨xa,xn,xc⟩ h λz h'=>K (.int .i64 z) h'
    | none=>False
   | _=>False
  | .builtin .clear,some [.slice sa sn sc],[t]=>match P.underlying t with
   | some (.slice e)=>match P.info? e with
    | some te=>match te.zero with
     | some z=>fU (z.cells.size==te.size&&Nat.blt 0 te.size) (Bs ⟨sa,sn,sc⟩ z.cells.toList h λh'=>K (.tuple #[]) h')
     | none=>False
    | none=>False
   | _=>False
  | _,_,_=>False
 | _=>False
def sW (P:Program)(o:Op)(ty:TypeId)(ρ:Env)(h:Hp)(K:Value->Hp->Prop):Prop:=
 bif uz o then qK P o ρ h (λv=>K v h)else eK P o ty ρ h K
theorem I4:∀{vs:List Value} {A:Prop},Aw vs A->A/\∀v∈vs,dY v=true
 | [],A,h=>⟨h,by simp⟩
 | v::vs,A,h=>by
  have h1:dY v=true/\Aw vs A:=by cases v<;>first|exact h.elim|exact⟨rfl,h⟩
  obtain⟨b,d⟩:=I4 h1.2;exact⟨b,λu a=>by
   rcases zW.1 a with rfl|a
   .exact h1.1
   .exact d u a⟩
theorem Xx.refl (w:World):Xx w w:=⟨rfl,rfl,rfl,zD _⟩
theorem Xx.trans {a b c:World}(h:Xx a b)(k:Xx b c):Xx a c:=⟨k.1.trans h.1,k.2.1.trans h.2.1,k.2.2.1.trans h.2.2.1,kD h.2.2.2 k.2.2.2⟩
theorem VH (h:Hp)(a:Addr)(v:Value):(j3 h a v).size=h.size:=by simp[j3]
theorem Fl {P:Program}{w:World}{a:Addr}{v:Value}(ho:dY v=true)(h1:(cell w.heap a).isSome=true)(h2:oE w.heap a=false):(store a v).run P w=.ok () (w.setCell a v):=by
 obtain⟨u,d⟩:=pv.1 h1;have g:w.cell? a=some u:=d;have b:w.frozen? a=false:=h2;cases v<;>simp[dY]at ho<;>simp[store,Sem.run,g,b]
theorem GH {P:Program}:∀{vs:List Value} {w:World} {a:Addr} {i:Nat} {K:aP},(∀v∈vs,dY v=true)->qA a w.heap vs i K →
 ∃w',(storeCells a vs i).run P w=.ok () w'/\Xx w w'/\K w'.heap
 | [],w,a,i,K,_,h=>⟨w,by simp[storeCells],.refl _,h⟩
 | v::vs,w,a,i,K,ho,h=>by
  obtain⟨h1,h2,h3⟩:=h;have p:=Fl (P:=P) (ho v aA) h1 h2;obtain⟨w',m,g,j⟩:=GH (P:=P) (w:=w.setCell (a.add i) v) (λu d=>ho u (by simp[d])) h3;refine⟨w',?_,Xx.trans (b:=w.setCell (a.add i) v) ⟨rfl,rfl,rfl,Nat.le_of_eq (VH w.heap (a.add i) v).symm⟩ g,j⟩;simp only[storeCells,Sem.run_bind,p,Result.andThen_ok,m]
theorem MD {P:Program}{vs:List Value}{w:World}{a:Addr}{K:aP}(ho:∀v∈vs,dY v=true)(h:BJ a vs w.heap K) :
 ∃w',(storeCells a vs).run P w=.ok () w'/\Xx w w'/\K w'.heap:=by
 refine GH ho ?_;unfold BJ at h;split at h
 .simpa[qA,Addr.add_zero']using h
 .exact h
def Kw (P:Program)(s:Sem Next)(w:World)(K:Value->Hp->Prop):Prop:=
 (∃v w',s.run P w=.ok (.value v) w'/\Xx w w'/\K v w'.heap) ∨
 (∃w',s.run P w=.ok .skip w'/\Xx w w'/\K undef w'.heap) ∨
 (∃f args rs R,s.run P w=.ok (.enter f args) w/\Wg P f args rs w.heap R/\∀vs h',Sat (fA rs) R vs h'->K (pack rs vs) h')
theorem Kw.upon {P:Program}{o:Oper}{a:Act}{w:World}{K:Value->Hp->Prop}{next:Act->World->Prop}{Q:Exit->Act->World->Prop}
 (h:Kw P (execOp a.eval o) w K) (hn:∀v w',Xx w w'->K v w'.heap->next (a.put o.dst v) w'):o.wp P a w next Q:=by
 unfold Oper.wp;rcases h with⟨v,w',hr,b,hK⟩|⟨w',hr,b,hK⟩|⟨f,args,rs,R,hr,hc,hK⟩
 .rw[hr];exact hn _ _ b hK
 .rw[hr];exact hn _ _ b hK
 .rw[hr];refine(hc w rfl).mono λe w' ⟨b,vs,d,g⟩=>?_;subst d;exact hn _ _ b (hK _ _ g)
theorem V0 {P:Program}{f:Nat}(h:Ut P f=true)(args:Array Value)(w:World):(callFunc f args).run P w=.ok (.enter f args) w:=by
 unfold Ut at h;split at h
 .rename_i fn hf;simp only[zF,mJ,mV]at h;obtain⟨a,d⟩:=h;obtain⟨c,b⟩:=pv.1 d;simp[callFunc,hf,a,b]
 .cases h
theorem Wer {P:Program}{f:Nat}{args:List Value}{w:World}{K:Value->Hp->Prop}(h:Cg P f args w.heap K):Kw P (callFunc f args.toArray) w K:=by
 unfold Cg at h;split at h
 .split at h
  .rename_i rs hrs;split at h
   .rename_i hc;exact .inr (.inr ⟨f,_,rs,_,V0 hc _ _,h,λvs m j=>UB j⟩)
   .split at h
    .obtain⟨b,d,i,a,g⟩:=h w rfl;exact .inl ⟨_,d,i,a,g⟩
    .exact h.elim
  .exact h.elim
 .exact h.elim
theorem PW {P:Program}{fv:Fv}{args:List Value}{ty:Nat}{w:World}{K:Value->Hp->Prop}(h:Eo P fv args ty w.heap K) :
 Kw P (callFunc fv.f (fv.first++args.toArray++fv.captured)) w K:=by
 unfold Eo at h;split at h
 .rename_i rs _;exact .inr (.inr ⟨_,_,rs,_,V0 h.1 _ _,h.2,λvs b a=>UB a⟩)
 .exact h.elim
theorem Φ {P:Program}{v:Value}{name:String}{args:List Value}{ty:Nat}{w:World}{K:Value->Hp->Prop}(h:Cu P v name args ty w.heap K) :
 Kw P (callMethod v name args.toArray) w K:=by
 unfold Cu at h;split at h
 .rename_i rs _;obtain⟨t,u,f,rfl,d,b,h⟩:=h;refine .inr (.inr ⟨f,_,rs,_,?_,h,λvs g a=>UB a⟩);simp only[callMethod,Sem.run_bind,run_program,Result.andThen_ok,d,b];simp
 .exact h.elim
theorem BD {P:Program}{t:Nat}{K:IntKind->CK->Prop}(h:tu P t K):∃kt et k c,P.underlying t=some (.map kt et)/\P.underlying kt=some (.int k)/\K k c:=by
 unfold tu at h;split at h
 .split at h
  .exact⟨_,_,_,_,by assumption,by assumption,h⟩
  .exact h.elim
 .exact h.elim
theorem UQ (w:World)(o:Obj):Xx w {w with heap:=w.heap.push o}:=⟨rfl,rfl,rfl,by simp⟩
theorem HF (h:Hp)(r:Nat)(o:Obj):Ka h (h.setIfInBounds r o) r:=⟨by simp,λb a=>by rw[Bj (Ne.symm a)]⟩
theorem IG {es:List MapEntry}{k:IntKind}{c:CK}:∀(l:List (Int×c.T)) (es:List MapEntry) (j:Nat) (n:Int) (x:c.T),
 es.map (λe=>(e.key,e.val))=l.map (λx=>(Value.int k x.1,c.v x.2))->(l.map (·.1)).Nodup->l.findIdx? (λx=>x.1==n)=some j →
 (es.modify j λe=>{e with key:=.int k n,val:=c.v x}).map (λe=>(e.key,e.val))=(l.map λy=>if y.1==n then(n,x)else y).map (λx=>(Value.int k x.1,c.v x.2))
 | [],es,j,n,x,he,hn,hj=>by simp at hj
 | y::l,[],j,n,x,he,hn,hj=>by simp at he
 | y::l,e::es,j,n,x,he,hn,hj=>by
  simp only[zR,List.cons.injEq]at he;simp only[zR,zr]at hn;simp only[wW]at hj;cases hy:y.1==n
  .rw[hy]at hj;simp only[za,jV,oy]at hj;obtain⟨j',hj',rfl⟩:=hj;have:=IG (es:=es) l es j' n x he.2 hn.2 hj';simp only[List.modify_succ_cons,zR,this,hy,he.1];simp
  .rw[hy]at hj;simp at hj;subst hj;have a:y.1=n:=by simpa using hy
   simp only[List.modify_zero_cons,zR,hy,zT,List.cons.injEq,uP,he.2]
   congr 1
   have:∀z∈l,(z.1==n)=false:=by
    intro z hz;have:z.1≠y.1:=λe=>hn.1 (by rw[←e];exact yJ hz);simpa[a]using this
   have e:l=l.map λz=>if z.1==n then(n,x)else z:=by
    conv=>lhs;rw[←vJ l]
    apply kh;intro z hz;simp[this z hz]
   exact e
theorem L9 {α:Type}{l:List (Int×α)}{n:Int}{j:Nat}(h:l.findIdx? (λx=>x.1==n)=some j):l.any (λx=>x.1==n)=true:=by
 obtain⟨x,a,rfl⟩:=U3 h;rw[zy];exact⟨x,zG a,by simp⟩
theorem NV {α:Type}{l:List (Int×α)}{n:Int}(h:l.findIdx? (λx=>x.1==n)=none):l.any (λx=>x.1==n)=false:=by
 rw[vV]at h;rw[mG];simpa using h
theorem hU {α:Type}{l:List (Int×α)}{n:Int}{x:α}(hn:(l.map (·.1)).Nodup):((cX l n x).map (·.1)).Nodup:=by
 unfold cX;split
 .have:(l.map λy=>if y.1==n then(n,x)else y).map (·.1)=l.map (·.1):=by
   rw[lQ];apply kh;intro y _;simp only[Function.comp];split
   .rename_i h;simp at h;exact h.symm
   .rfl
  rwa [this]
 .rename_i h;rw[zj,m9];refine⟨hn,by simp,?_⟩;intro a ha b hb;simp at hb;subst hb;rintro rfl;obtain⟨y,d,rfl⟩:=zE.1 ha;exact h (zy.2 ⟨y,d,by simp⟩)
theorem Om {P:Program}{t kt et:Nat}{k:IntKind}{c:CK}(hu:P.underlying t=some (.map kt et))(hk:P.underlying kt=some (.int k)){r:Nat}{l:List (Int×c.T)}{n:Int}{x:c.T}{w:World}
 (hm:dM w.heap r k c l):∃w',(Instr.mapUpdate t (.map (some r)) (.int k n) (c.v x)).run P w=.ok () w'/\Xx w w'/\Ka w.heap w'.heap r/\dM w'.heap r k c (cX l n x):=by
 obtain⟨es,d,z,i,E,F,C⟩:=hm;have A:r<w.heap.size:=(jT.1 z).1;have g:∀o,(w.heap.setIfInBounds r o)[r]?=some o:=λo=>by simp[A]
 cases hf:l.findIdx? (λx=>x.1==n)with
 | some j=>
  obtain⟨y,G,D⟩:=U3 hf;have J:j<l.length:=(cY.1 G).1;have p:es.toList.length=l.length:=by simpa using congrArg List.length i
  have u:j<es.size:=by simp at p;omega
  have s:es[j].key=.int k n:=by
   have:=congrArg (λl=>l[j]?) i;simp only[zZ,G,ze]at this;rw[Az,Array.getElem?_eq_getElem u]at this;simp at this;rw[this.1,D]
  refine⟨{w with heap:=w.heap.setIfInBounds r (.map (es.modify j λe=>{e with key:=.int k n,val:=c.v x}) d)},?_,⟨rfl,rfl,rfl,by simp⟩,HF _ _ _,?_⟩
  .simp only[Instr.mapUpdate,Sem.run_bind,run_underlying hu,Result.andThen_ok,Kh hk,getObj,Sem.run,z,Vf hk i,hf];simp[Array.getElem?_eq_getElem u,s,Instr.keyThatStays,Instr.sameBits,setObj,Sem.run,z]
  .refine⟨_,d,g _,?_,hU E,?_,?_⟩
   .rw[Dq,IG (es:=[]) l es.toList j n x i E hf];simp[cX,L9 hf]
   .have:(es.modify j λe=>{e with key:=.int k n,val:=c.v x}).toList.map (·.born)=es.toList.map (·.born):=by
     rw[Dq];apply zt;intro m;simp only[zZ,uN];cases es.toList[m]?<;>simp
     split<;>rfl
    rw[this];exact F
   .intro e he';have:e.born∈(es.modify j λe=>{e with key:=.int k n,val:=c.v x}).toList.map (·.born):=yJ he';have e2:(es.modify j λe=>{e with key:=.int k n,val:=c.v x}).toList.map (·.born)=es.toList.map (·.born):=by
     rw[Dq];apply zt;intro m;simp only[zZ,uN];cases es.toList[m]?<;>simp
     split<;>rfl
    rw[e2]at this;obtain⟨K,H,L⟩:=zE.1 this;rw[←L];exact C K H
 | none=>
  refine⟨{w with heap:=w.heap.setIfInBounds r (.map (es.push {key:=.int k n,val:=c.v x,born:=d}) (d+1))},?_,⟨rfl,rfl,rfl,by simp⟩,HF _ _ _,?_⟩
  .simp only[Instr.mapUpdate,Sem.run_bind,run_underlying hu,Result.andThen_ok,Kh hk,getObj,Sem.run,z,Vf hk i,hf];simp[setObj,Sem.run,z]
  .refine⟨_,d+1,g _,?_,hU E,?_,?_⟩
   .simp[cX,NV hf,i]
   .simp only[Array.toList_push,zj,zR,oC,qO];refine⟨F,by simp,?_⟩;intro a ha b hb';simp at hb';subst hb';obtain⟨e,B,rfl⟩:=zE.1 ha;exact C e B
   .intro e he';simp only[Array.toList_push,zJ,zN]at he';rcases he' with h|rfl
    .have:=C e h;omega
    .simp
theorem Ls {k:IntKind}{c:CK}:∀(l:List (Int×c.T)) (es:List MapEntry) (j:Nat) (n:Int),
 es.map (λe=>(e.key,e.val))=l.map (λx=>(Value.int k x.1,c.v x.2))->(l.map (·.1)).Nodup->l.findIdx? (λx=>x.1==n)=some j →
 (es.eraseIdx j).map (λe=>(e.key,e.val))=(cO l n).map (λx=>(Value.int k x.1,c.v x.2))
 | [],es,j,n,he,hn,hj=>by simp at hj
 | y::l,[],j,n,he,hn,hj=>by simp at he
 | y::l,e::es,j,n,he,hn,hj=>by
  simp only[zR,List.cons.injEq]at he;simp only[zR,zr]at hn;simp only[wW]at hj;cases hy:y.1==n
  .rw[hy]at hj;simp only[za,jV,oy]at hj;obtain⟨j',hj',rfl⟩:=hj;have:=Ls l es j' n he.2 hn.2 hj';simp only[List.eraseIdx_cons_succ,zR,this,cO,tZ,hy,he.1];simp
  .rw[hy]at hj;simp at hj;subst hj;have a:y.1=n:=by simpa using hy
   simp only[List.eraseIdx_zero,List.tail_cons,cO,tZ,hy,Bool.not_true,za,jV,he.2]
   congr 1
   symm
   rw[qG];intro z hz;have:z.1≠y.1:=λe=>hn.1 (by rw[←e];exact yJ hz);simpa[a]using this
theorem MY {α:Type}{l:List (Int×α)}{n:Int}(h:l.findIdx? (λx=>x.1==n)=none):cO l n=l:=by
 rw[vV]at h;unfold cO;rw[qG];intro z hz;have:=h z hz;simpa using this
theorem jy {α:Type}{l:List (Int×α)}{n:Int}(hn:(l.map (·.1)).Nodup):((cO l n).map (·.1)).Nodup:=
 hn.sublist (List.Sublist.map _ uB)
theorem WjA {P:Program}{t kt et ty:Nat}{k:IntKind}{c:CK}(hu:P.underlying t=some (.map kt et))(hk:P.underlying kt=some (.int k)){m:Option Nat}{l:List (Int×c.T)}{n:Int}{w:World}{ats:List Nat}
 (hm:ju w.heap m k c l):∃w',(Builtin.delete_ (t::ats).toArray ty #[.map m,.int k n]).run P w=.ok (.tuple #[]) w'/\Xx w w'/\(∀r,m=some r->Ka w.heap w'.heap r)/\(m=none->w'.heap=w.heap)/\ju w'.heap m k c (cO l n):=by
 cases m with
 | none=>
  simp only[ju]at hm;subst hm;exact⟨w,by simp[Builtin.delete_,run_underlying hu,Kh hk],.refl _,λr h=>(by cases h),λ_=>rfl,rfl⟩
 | some r=>
  obtain⟨d,a,s,g,p,u,y⟩:=hm;have i:r<w.heap.size:=(jT.1 s).1;have b:∀o,(w.heap.setIfInBounds r o)[r]?=some o:=λo=>by simp[i]
  cases hf:l.findIdx? (λx=>x.1==n)with
  | some j=>
   refine⟨{w with heap:=w.heap.setIfInBounds r (.map (d.eraseIdxIfInBounds j) a)},?_,⟨rfl,rfl,rfl,by simp⟩,λz h=>(by cases h;exact HF _ _ _),(λh=>by cases h),?_⟩
   .simp[Builtin.delete_,run_underlying hu,Kh hk,getObj,Sem.run,s,Vf hk g,hf,setObj]
   .refine⟨_,a,b _,?_,jy p,?_,?_⟩
    .rw[B8];exact Ls l d.toList j n g p hf
    .rw[B8];exact u.sublist (List.Sublist.map _ (List.eraseIdx_sublist _ _))
    .rw[B8];intro e he';exact y e ((List.eraseIdx_sublist _ _).mem he')
  | none=>
   refine⟨{w with heap:=w.heap.setIfInBounds r (.map d a)},?_,⟨rfl,rfl,rfl,by simp⟩,λz h=>(by cases h;exact HF _ _ _),(λh=>by cases h),?_⟩
   .simp[Builtin.delete_,run_underlying hu,Kh hk,getObj,Sem.run,s,Vf hk g,hf,setObj]
   .rw[MY hf];exact⟨d,a,b _,g,p,u,y⟩
theorem wb {P:Program}{w:World}{sz n:Nat}{s:Sl}{xs:List Value}(hl:xs.length=s.len*sz)(h:Rd w.heap s.a xs)(hn:n=s.len) :
 (Builtin.firstCells sz n (.slice s.a s.len s.cap)).run P w=.ok xs.toArray w:=by
 subst hn;obtain⟨a,len,cap⟩:=s;cases a with
 | none=>simp only[Rd]at h;subst h;simp[Builtin.firstCells]
 | some a=>
  simp only at hl h;simp only[Builtin.firstCells];rw[←hl];have:=run_loadCells_list (P:=P) (w:=w) a xs (λj v b=>h j v b);exact this
theorem VY {z:Array Value}(hz:0<z.size):∀n,Builtin.zeroCells z n=(List.replicate n z.toList).flatten.toArray:=by
 intro n;apply Array.ext';simp only[Builtin.zeroCells,Array.toList_map,Array.toList_range]
 induction n with
 | zero=>simp
 | succ n ih=>
  rw[BV,List.flatten_append];simp only[vY,List.flatten_nil,kG];rw[←ih];rw[Nat.succ_mul,List.range_add,zj,lQ]
  congr 1
  apply List.ext_getElem
  .simp
  .intro i h1 h2;simp at h1 h2;simp[vI h1,h1]
theorem EE (n c:Nat)(h:¬n<=c):Builtin.nextslicecap n c<=2*n:=by
 unfold Builtin.nextslicecap;split
 .omega
 .split
  .omega
  .have key:∀r c,c<=2*n->(Builtin.growBy n r c)<=2*n:=by
    intro r
    induction r with
    | zero=>intro c hc;simpa[Builtin.growBy]using hc
    | succ r ih=>
     intro c hc;simp only[Builtin.growBy];split
     .exact hc
     .exact ih _ O
   exact key _ _ O
theorem MF {P:Program}{t e ty:Nat}{te:TypeInfo}{z:Value}{s x:Sl}{K:Sl->Hp->Prop}{w:World}(hu:P.underlying t=some (.slice e))(hi:P.info? e=some te)(hz:te.zero=some z)(hzs:z.cells.size=te.size)(hpos:0<te.size)
 (h:App s te.size te.bytes e z.cells.toList x w.heap K) :
 ∃r w',(Builtin.append_ #[t,t] ty #[.slice s.a s.len s.cap,.slice x.a x.len x.cap]).run P w=.ok (.slice (Sl.a r) r.len r.cap) w'/\Xx w w'/\K r w'.heap:=by
 obtain⟨H,M,F,J,L,N,D,V,W,b,d⟩:=h;have p:=wb (P:=P) (n:=s.len) F L rfl;have i:=wb (P:=P) (n:=x.len) J N rfl;by_cases hroom:s.len+x.len<=s.cap
 .have b:=b hroom;cases hsa:s.a with
  | some a=>
   rw[hsa]at b;obtain⟨w',S,R,B⟩:=GH (P:=P) D b;rw[hsa]at p;refine⟨⟨some a,s.len+x.len,s.cap⟩,w',?_,R,B⟩;simp[Builtin.append_,run_underlying hu,sizeOf,typeInfo,hi,Builtin.lenOf,hroom,i,S]
  | none=>
   rw[hsa]at b;rw[hsa]at p;refine⟨⟨none,s.len+x.len,s.cap⟩,w,?_,.refl _,b⟩;simp[Builtin.append_,run_underlying hu,sizeOf,typeInfo,hi,Builtin.lenOf,hroom,i]
 .have d:=d hroom;have m:¬(2^48<Builtin.nextslicecap (s.len+x.len) s.cap*te.bytes):=by
   have:=EE (s.len+x.len) s.cap hroom;have:Builtin.nextslicecap (s.len+x.len) s.cap*te.bytes<=2*(s.len+x.len)*te.bytes:=mD _ this;rw[yB]at this;omega
  have G:¬(IntKind.i64.max<((s.len+x.len:Nat):Int)):=by
   have:IntKind.i64.max=9223372036854775807:=by decide
   rw[this];omega
  have A:¬(IntKind.i64.max<((s.len:Int)+(x.len:Int))):=by
   have:IntKind.i64.max=9223372036854775807:=by decide
   rw[this];omega
  have C:=VY (z:=z.cells) O;have y:s.cap<s.len+x.len:=O
  have g:¬(281474976710656<Builtin.nextslicecap (s.len+x.len) s.cap*te.bytes):=by simpa using m
  let q:=Question.appendCap (s.len+x.len) s.cap e
  let c:=q.cut (w.tape w.drawn q)
  have Q:s.len+x.len<=c:=by simp only[c,q,Question.cut];omega
  have B:=d c Q;refine⟨⟨some ⟨w.heap.size,0,none⟩,s.len+x.len,c⟩,{w with drawn:=w.drawn+1,heap:=w.heap.push (.cells (H++M++(List.replicate (c-(s.len+x.len)) z.cells.toList).flatten).toArray e (0,0))},?_,⟨rfl,rfl,rfl,by simp⟩,B⟩;have U:(Question.appendCap (s.len+x.len) s.cap e).forced=false:=rfl;have E:¬(9223372036854775807<(s.len:Int)+(x.len:Int)):=O
  have u:=wb (P:=P) (w:=w.drew) (n:=s.len) F (show Rd w.drew.heap s.a H from L) rfl;have j:=wb (P:=P) (w:=w.drew) (n:=x.len) J (show Rd w.drew.heap x.a M from N) rfl;simp[Builtin.append_,run_underlying hu,sizeOf,typeInfo,hi,Builtin.lenOf,hroom,E,U,g,u,j,zeroValue,hz,C,newRow];refine⟨rfl,?_⟩;unfold World.alloc World.drew;simp[c,q]
theorem NX {P:Program}{t t' e ty:Nat}{te:TypeInfo}{z:Value}{s:Sl}{n:Int}{ki:IntKind}{K:Sl->Hp->Prop}{w:World}(hu:P.underlying t=some (.slice e))(hu':P.underlying t'=some (.int ki))(hi:P.info? e=some te)(hz:te.zero=some z)(hzs:z.cells.size=te.size)(hpos:0<te.size)
 (h:uh s te.size te.bytes e z.cells.toList n w.heap K) :
 ∃r w',(Builtin.append_ #[t,t'] ty #[.slice s.a s.len s.cap,.int .i64 n]).run P w=.ok (.slice (Sl.a r) r.len r.cap) w'/\Xx w w'/\K r w'.heap:=by
 obtain⟨R,W,V,X,L,h5,h6,h7,i,j⟩:=h;obtain⟨n,rfl⟩:=zc R;simp only[dH]at h5 h6 h7 i j;have F:=wb (P:=P) (n:=s.len) V X rfl;have M:∀v∈(List.replicate n z.cells.toList).flatten,dY v=true:=by
  intro v G;simp only[List.mem_flatten,Bi]at G;obtain⟨l,⟨_,rfl⟩,G⟩:=G;exact L v G
 have y:IntKind.i64.wrap (n:Int)=n:=by unfold IntKind.wrap;simp[IntKind.bits,IntKind.signed];omega
 have A:IntKind.i64.wrap 0=0:=by decide
 have u:=VY (z:=z.cells) O;have C:¬((n:Int)<0):=O
 have N:¬((n:Int)*(te.bytes:Int)>2^48):=by
  have:(2:Int)^46<=2^48:=by decide
  omega
 have p:¬(281474976710656<(n:Int)*(te.bytes:Int)):=by simpa using N
 have J:n*te.size=0->(List.replicate n z.cells.toList).flatten=[]:=by
  intro h0;rcases wF.1 h0 with h|h
  .subst h;simp
  .omega
 by_cases hroom:s.len+n<=s.cap
 .have i:=i hroom;cases hsa:s.a with
  | some a=>
   rw[hsa]at i;obtain⟨w',S,Y,H⟩:=GH (P:=P) M i;rw[hsa]at F;refine⟨⟨some a,s.len+n,s.cap⟩,w',?_,Y,H⟩;by_cases hn:n*te.size=0
   .have:=J hn;rw[this]at S;rcases wF.1 hn with hn'|hn'
    .subst hn';have b:s.len<=s.cap:=by simpa using hroom
     simp[Builtin.append_,run_underlying hu,run_underlying hu',sizeOf,typeInfo,hi,Builtin.lenOf,b,asInt,asIntOf,A,S]
    .omega
   .have g:¬n=0:=λe=>hn (by rw[e];simp);have d:¬te.size=0:=O
    simp[Builtin.append_,run_underlying hu,run_underlying hu',sizeOf,typeInfo,hi,Builtin.lenOf,hroom,S,asInt,asIntOf,y,C,p,hn,g,d,zeroValue,hz,u]
  | none=>
   rw[hsa]at i;rw[hsa]at F;refine⟨⟨none,s.len+n,s.cap⟩,w,?_,.refl _,i⟩;by_cases hn:n*te.size=0
   .rcases wF.1 hn with hn'|hn'
    .subst hn';have b:s.len<=s.cap:=by simpa using hroom
     simp[Builtin.append_,run_underlying hu,run_underlying hu',sizeOf,typeInfo,hi,Builtin.lenOf,b,asInt,asIntOf,A]
    .omega
   .have g:¬n=0:=λe=>hn (by rw[e];simp);have d:¬te.size=0:=O
    simp[Builtin.append_,run_underlying hu,run_underlying hu',sizeOf,typeInfo,hi,Builtin.lenOf,hroom,asInt,asIntOf,y,C,p,hn,g,d,zeroValue,hz,u]
 .have j:=j hroom;have D:¬(2^48<Builtin.nextslicecap (s.len+n) s.cap*te.bytes):=by
   have:=EE (s.len+n) s.cap hroom;have:Builtin.nextslicecap (s.len+n) s.cap*te.bytes<=2*(s.len+n)*te.bytes:=mD _ this;rw[yB]at this;omega
  have m:¬(281474976710656<Builtin.nextslicecap (s.len+n) s.cap*te.bytes):=by simpa using D
  let q:=Question.appendCap (s.len+n) s.cap e
  let c:=q.cut (w.tape w.drawn q)
  have hc:s.len+n<=c:=by simp only[c,q,Question.cut];omega
  have H:=j c hc;refine⟨⟨some ⟨w.heap.size,0,none⟩,s.len+n,c⟩,{w with drawn:=w.drawn+1,heap:=w.heap.push (.cells (W++(List.replicate n z.cells.toList).flatten++(List.replicate (c-(s.len+n)) z.cells.toList).flatten).toArray e (0,0))},?_,⟨rfl,rfl,rfl,by simp⟩,H⟩;have Z:(Question.appendCap (s.len+n) s.cap e).forced=false:=rfl;have U:¬(9223372036854775807<(s.len:Int)+(n:Int)):=O
  have x:=wb (P:=P) (w:=w.drew) (n:=s.len) V (show Rd w.drew.heap s.a W from X) rfl;by_cases hn:n*te.size=0
  .rcases wF.1 hn with hn'|hn'
   .subst hn';have b:¬s.len<=s.cap:=by simpa using hroom
    have B:¬(281474976710656<Builtin.nextslicecap s.len s.cap*te.bytes):=by simpa using m
    have Q:(Question.appendCap s.len s.cap e).forced=false:=rfl;have E:¬(9223372036854775807<(s.len:Int)):=O
    simp[Builtin.append_,run_underlying hu,run_underlying hu',sizeOf,typeInfo,hi,Builtin.lenOf,b,E,Q,B,x,zeroValue,hz,u,newRow,asInt,asIntOf,A];refine⟨rfl,?_⟩;unfold World.alloc World.drew;simp[c,q]
   .omega
  .have g:¬n=0:=λe=>hn (by rw[e];simp);have d:¬te.size=0:=O
   simp[Builtin.append_,run_underlying hu,run_underlying hu',sizeOf,typeInfo,hi,Builtin.lenOf,hroom,U,Z,m,x,zeroValue,hz,u,newRow,asInt,asIntOf,y,C,p,hn,g,d];refine⟨rfl,?_⟩;unfold World.alloc World.drew;simp[c,q]
theorem Tu {P:Program}{t e ty:Nat}{ats:List TypeId}{te:TypeInfo}{d s:Sl}{K:aN}{w:World}(hu:P.underlying t=some (.slice e))(hi:P.info? e=some te)
 (h:sF d te.size s w.heap K):∃z w',(Builtin.copy_ (t::ats).toArray ty #[.slice d.a d.len d.cap,.slice s.a s.len s.cap]).run P w=.ok (.int .i64 z) w'/\Xx w w'/\K z w'.heap:=by
 obtain⟨r,p,i,x,m⟩:=h;have g:(Builtin.firstCells te.size (min s.len d.len) (.slice s.a s.len s.cap)).run P w=.ok r.toArray w:=by
  obtain⟨a,len,cap⟩:=s;cases a with
  | none=>simp only[Rd]at i;subst i;simp[Builtin.firstCells]
  | some a=>
   simp only at p i;simp only[Builtin.firstCells];rw[←p];exact run_loadCells_list (P:=P) (w:=w) a r (λj v y=>i j v y)
 have b:Nat.min s.len d.len=min s.len d.len:=rfl;cases hda:d.a with
 | none=>
  rw[hda]at m;refine⟨_,w,?_,.refl _,m⟩;simp[Builtin.copy_,run_underlying hu,sizeOf,typeInfo,hi,Builtin.lenOf,g,b,goInt]
 | some a=>
  rw[hda]at m;obtain⟨w',B,u,A⟩:=GH (P:=P) x m;refine⟨_,w',?_,u,A⟩;simp[Builtin.copy_,run_underlying hu,sizeOf,typeInfo,hi,Builtin.lenOf,g,b,B,goInt]
theorem TP {P:Program}{t e ty:Nat}{te:TypeInfo}{z:Value}{s:Sl}{K:aP}{w:World}(hu:P.underlying t=some (.slice e))(hi:P.info? e=some te)(hz:te.zero=some z)(hzs:z.cells.size=te.size)(hpos:0<te.size)
 (h:Bs s z.cells.toList w.heap K):∃w',(Builtin.clear_ #[t] ty #[.slice s.a s.len s.cap]).run P w=.ok (.tuple #[]) w'/\Xx w w'/\K w'.heap:=by
 obtain⟨m,h⟩:=h;have d:=VY (z:=z.cells) O;obtain⟨a,len,cap⟩:=s;cases a with
 | none=>exact⟨w,by simp[Builtin.clear_,run_underlying hu],.refl _,h⟩
 | some a=>
  simp only at h;cases len with
  | zero=>
   simp[qA]at h;exact⟨w,by simp[Builtin.clear_,run_underlying hu],.refl _,h⟩
  | succ n=>
   obtain⟨w',j,g,i⟩:=GH (P:=P) (λv b=>by
    simp only[List.mem_flatten,Bi]at b;obtain⟨l,⟨_,rfl⟩,b⟩:=b;exact m v b) h
   refine⟨w',?_,g,i⟩;simp[Builtin.clear_,run_underlying hu,zeroValue,typeInfo,hi,hz,d,j]
theorem WlS {P:Program}{t len:Nat}{ps:List (Nat×Value)}{K:TypeId->List Value->Prop}(h:Cs P t len ps K):∃e te z cs,P.underlying t=some (.slice e)/\P.info? e=some te/\te.zero=some z/\K e cs ∧
 ((len=0/\ps=[]/\cs=[])\/(len*te.size<=16777216/\0<len*te.size/\z.cells.size=te.size/\sK (λi=>some (i*te.size,te.size)) (List.replicate len z.cells.toList).flatten ps=some cs)):=by
 unfold Cs at h;split at h
 case h_2=>exact h.elim
 rename_i e hu;split at h
 case h_2=>exact h.elim
 rename_i te hi;split at h
 case h_2=>exact h.elim
 rename_i z hz;split at h
 .exact⟨e,te,z,[],hu,hi,hz,h,.inl ⟨rfl,rfl,rfl⟩⟩
 .exact h.elim
 .rw[WJ]at h;obtain⟨a,h⟩:=h;simp only[zF,zU]at a;split at h
  case h_2=>exact h.elim
  rename_i cs hf;exact⟨e,te,z,cs,hu,hi,hz,h,.inr ⟨AA a.1.1,Nat.blt_eq.mp a.1.2,a.2,hf⟩⟩
theorem EC {z:Array Value}(hz:0<z.size)(n:Nat):((Array.range (n*z.size)).map (z[· % z.size]!))=(List.replicate n z.toList).flatten.toArray:=VY hz n
theorem On {P:Program}{ρ:Env}{K:Value->Hp->Prop}{a:Act}{w:World}(hf:∀x v,ev ρ x=some v->a.eval x=v)(o:Oper)(hk:eK P o.op o.type ρ w.heap K) :
 Kw P (execOp a.eval o) w K:=by
 obtain⟨dst,op,ty,pos,after,guard⟩:=o;simp only at hk;have p:∀{s:Sem Value},(∃v B,s.run P w=.ok v B/\Xx w B/\K v B.heap)->Kw P (do pure (Next.value (←s)):Sem Next) w K:=by
  rintro s ⟨v,B,hv,J,D⟩;exact .inl ⟨v,B,by simp[hv],J,D⟩
 have L:∀{s:Sem Unit},(∃B,s.run P w=.ok () B/\Xx w B/\K undef B.heap)->Kw P (do s;pure Next.skip:Sem Next) w K:=by
  rintro s ⟨B,hv,J,D⟩;exact .inr (.inl ⟨B,by simp[hv],J,D⟩)
 unfold eK at hk;split at hk
 case h_1 t x y=>
  obtain⟨va,H,hk0⟩:=WA hk;clear hk;obtain⟨vx,hx,hk⟩:=WA hk0;clear hk0;simp only[execOp,hf _ _ H,hf _ _ hx];split at hk
  .rename_i ad;cases hraw:yg P t
   case true=>
    rw[hraw]at hk;simp only[cond_true]at hk;rw[WJ]at hk;obtain⟨hc,hif,s1,s2,D⟩:=hk;simp only[zF,zU]at hc;obtain⟨Y,X⟩:=hc;apply L;have hone:dY vx=true:=by rcases hif with rfl|⟨t',u,rfl⟩<;>rfl
    have F:vx.cells = #[vx]:=by rcases hif with rfl|⟨t',u,rfl⟩<;>rfl
    have C:=Fl (P:=P) (w:=w) hone s1 s2;refine⟨w.setCell ad vx,?_,⟨rfl,rfl,rfl,Nat.le_of_eq (VH w.heap ad vx).symm⟩,D⟩;have hr':(storeCells ad #[vx].toList).run P w=.ok () (w.setCell ad vx):=by
     simp only[storeCells,Addr.add_zero',Sem.run_bind,C,Result.andThen_ok];rfl
    simp only[Instr.storeAt,Instr.sureAddr,Sem.run_bind,Sem.run_pure,Result.andThen_ok,storeVar,Kt Y,X,F,ne_eq,jV];simpa using hr'
   rw[hraw]at hk;simp only[cond_false]at hk;rw[WJ]at hk;obtain⟨hc,hk⟩:=hk;simp only[zF,zU]at hc;obtain⟨Y,X⟩:=hc;obtain⟨hk,h3⟩:=I4 hk;apply L;obtain⟨B,C,J,D⟩:=MD (P:=P) h3 hk;refine⟨B,?_,J,D⟩;simp only[Instr.storeAt,Instr.sureAddr,Sem.run_bind,Sem.run_pure,Result.andThen_ok,storeVar,Kt Y,X,ne_eq,not_true_eq_false,jV];simpa using C
  .exact hk.elim
 case h_2 e=>
  split at hk
  case h_2=>exact hk.elim
  rename_i M hi;split at hk
  case h_2=>exact hk.elim
  rename_i z S;apply p;refine⟨_,_,?_,UQ _ _,hk⟩;simp[Instr.alloc,VW hi S,newVar,newRow,newObj,Sem.run]
 case h_3 e x=>
  obtain⟨v,hv,hk⟩:=WA hk;simp only[execOp,hf _ _ hv];apply p;cases hraw:yg P e
  case true=>
   rw[hraw]at hk;simp only[cond_true]at hk;have F:v.cells = #[v]:=by rcases hk.1 with rfl|⟨t',u,rfl⟩<;>rfl
   refine⟨_,_,?_,UQ _ _,hk.2⟩;simp[Instr.box,newVar,newRow,newObj,Sem.run,F]
  rw[hraw]at hk;refine⟨_,_,?_,UQ _ _,hk⟩;simp[Instr.box,newVar,newRow,newObj,Sem.run]
 case h_4 t len ps=>
  split at hk
  case h_2=>exact hk.elim
  rename_i vs hps;have e1:=UE hf hps;have d:ps.map (λ(i,x)=>(i,a.eval x))=vs.toArray:=by apply Array.ext';simpa using e1
  obtain⟨e,M,z,cs,E,hi,S,hk,hcase⟩:=WlS hk;simp only[execOp,d];apply p;refine⟨_,_,?_,UQ _ _,hk⟩;rcases hcase with⟨rfl,rfl,rfl⟩|⟨hle,W,hzs,hfl⟩
  .simp only[Instr.buildSlice,Sem.run_bind,run_underlying E,Result.andThen_ok,sizeOf,Uw hi,Sem.run_pure,wE];simp[Instr.fill,newRow,newObj,Sem.run,Array.range_zero']
  have hts:0<M.size:=Nat.pos_of_mul_pos_left W;have hfill:=U9 _ _ _ _ hfl;have U:=EC (z:=z.cells) O len;rw[hzs]at U;have hne:¬(len*M.size=0):=O
  have hle':¬(len*M.size>2^24):=by
   have:(2:Nat)^24=16777216:=by decide
   omega
  simp only[Instr.buildSlice,Sem.run_bind,run_underlying E,Result.andThen_ok,sizeOf,Uw hi,Sem.run_pure,hle',jV,hne,VW hi S,U,hzs,hfill,newRow,newObj,Sem.run]
 case h_5 t r=>
  split at hk
  .apply p;refine⟨_,_,?_,UQ _ _,hk⟩;simp[Instr.makeMap,newObj,Sem.run]
  .exact hk.elim
 case h_6 t l c=>
  obtain⟨vl,hl,hk⟩:=WA hk;obtain⟨vc,hc,hk⟩:=WA hk;simp only[execOp,hf _ _ hl,hf _ _ hc];split at hk
  case h_2=>exact hk.elim
  rename_i e n m E _;split at hk
  case h_2=>exact hk.elim
  rename_i M hi;split at hk
  case h_2=>exact hk.elim
  rename_i z S;rw[WJ]at hk;obtain⟨j,h0,Y,X,h3,hk⟩:=hk;simp only[zF,zU]at j;have W:0<M.size:=Nat.blt_eq.mp j.2;apply p;refine⟨_,_,?_,UQ _ _,hk⟩;have hwn:IntKind.i64.wrap n=n:=by unfold IntKind.wrap;simp[IntKind.bits,IntKind.signed];omega
  have hwm:IntKind.i64.wrap m=m:=by unfold IntKind.wrap;simp[IntKind.bits,IntKind.signed];omega
  have hbig:¬((M.bytes:Int)*m>2^48):=by
   have:(2:Int)^46<=2^48:=by decide
   omega
  have hm0:¬m<0:=O
  have hn0:¬n<0:=O
  have hnm:¬n>m:=O
  have Z:¬m<n:=O
  have U:=EC (z:=z.cells) O m.toNat;have hrz2:Array.map (λx=>z.cells[x%z.cells.size]!) (Array.range (m.toNat*M.size))=(List.replicate m.toNat z.cells.toList).flatten.toArray:=by rw[←j.1];exact U
  have R:¬(281474976710656<(M.bytes:Int)*m):=by simpa using hbig
  by_cases hz0:m.toNat*M.size=0
  .have hmz:m.toNat=0:=by
    rcases wF.1 hz0 with h|h
    .exact h
    .omega
   simp[Instr.makeSlice,run_underlying E,Uw hi,asInt,asIntOf,hwn,hwm,R,hm0,hn0,hnm,Z,askRoom,mark,sizeOf,hmz,newRow];rw[show Array.range 0 = #[]from rfl];simp
  .simp[Instr.makeSlice,run_underlying E,Uw hi,asInt,asIntOf,hwn,hwm,R,hm0,hn0,hnm,Z,askRoom,mark,sizeOf,hz0,VW hi S,newRow,hrz2];intro _;rfl
 case h_7 t x=>
  obtain⟨v,hv,G⟩:=WA hk;obtain⟨kt,et,ki,c,E,V,N⟩:=BD G;clear hk G;simp only[execOp,hf _ _ hv];split at N
  case h_2=>exact N.elim
  rename_i m;apply p;obtain⟨l,hm,D⟩:=N;cases m with
  | none=>
   refine⟨_,{w with heap:=w.heap.push (.mapIter none 0 #[] 0)},?_,UQ _ _,D _ aA (λb hb=>by simp[yf,xr hb]) ?_⟩
   .simp[Instr.range,run_underlying E,newObj,Sem.run]
   .simp only[ju]at hm;exact⟨hm,hm,rfl,0,#[],0,by simp⟩
  | some b=>
   obtain⟨es,clk,C,he,hn,hp,hb⟩:=hm;have hlt:b<w.heap.size:=(jT.1 C).1;refine⟨_,{w with heap:=w.heap.push (.mapIter (some b) clk #[] clk)},?_,UQ _ _,D _ aA (λb hb=>by simp[yf,xr hb]) ?_⟩
   .simp[Instr.range,run_underlying E,newObj,getObj,Sem.run,C]
   .exact⟨es,clk,#[],by simp,by simp[yf,xr hlt,C],he,hn,hp,hb,by rw[qG.2 (λe _=>by simp)];exact he,λx hx=>by cases hx⟩
 case h_8 t m k x=>
  obtain⟨vm,hm,G⟩:=WA hk;obtain⟨vk,hkk,N⟩:=WA G;obtain⟨vx,hx,hk3⟩:=WA N;obtain⟨kt,et,ki,c,E,V,Q⟩:=BD hk3;clear hk G N hk3;simp only[execOp,hf _ _ hm,hf _ _ hkk,hf _ _ hx];split at Q
  .split at Q
   .rename_i e;subst e;obtain⟨x,rfl,r,l,rfl,hl,D⟩:=Uk Q;apply L;obtain⟨B,C,J,ho,hl'⟩:=Om (P:=P) E V (x:=x) hl;exact⟨B,C,J,D _ ho hl'⟩
   .exact Q.elim
  .exact Q.elim
 case h_9 c=>
  obtain⟨callee,A,ats⟩:=c;simp only at hk;split at hk
  .rename_i f args' H;have e1:=Qe hf H;have d:A.map a.eval=args'.toArray:=by apply Array.ext';simpa using e1
   have:=Wer hk;simpa[execOp,resolve,d,Act.eval,Deferred.ofValue,invoke]using this
  .rename_i g args' _ H;obtain⟨vg,hg,hk⟩:=WA hk;obtain⟨fv,rfl,hk⟩:=Uk hk;have e1:=Qe hf H;have d:A.map a.eval=args'.toArray:=by apply Array.ext';simpa using e1
   have:=PW hk;simpa[execOp,resolve,d,hf _ _ hg,CK.v,Deferred.ofValue,invoke]using this
  .rename_i r name args' H;obtain⟨vr,C,hk⟩:=WA hk;have e1:=Qe hf H;have d:A.map a.eval=args'.toArray:=by apply Array.ext';simpa using e1
   have:=Φ hk;simpa[execOp,resolve,d,hf _ _ C,invoke]using this
  .rename_i sa sn sc xa xn xc t t' H ht;have e1:=Qe hf H;have d:A.map a.eval = #[.slice sa sn sc,.slice xa xn xc]:=by apply Array.ext';simpa using e1
   have e2:ats = #[t,t']:=by apply Array.ext';simpa using ht
   subst e2;split at hk
   case h_2=>exact hk.elim
   rename_i e E;split at hk
   case h_2=>exact hk.elim
   rename_i M hi;split at hk
   case h_2=>exact hk.elim
   rename_i z S;rw[WJ]at hk;obtain⟨j,hk⟩:=hk;simp only[zF,zU]at j;obtain⟨⟨Y,X⟩,h3⟩:=j;have ett:t=t':=kf Y;subst ett;obtain⟨r,B,C,J,D⟩:=MF (P:=P) (ty:=ty) E hi S X (Nat.blt_eq.mp h3) hk;refine .inl ⟨_,B,?_,J,D⟩;simp only at C;simp[execOp,resolve,d,invoke,builtin,C]
  .rename_i m k' n t ats' H ht;have e1:=Qe hf H;have d:A.map a.eval = #[.map m,.int k' n]:=by apply Array.ext';simpa using e1
   have e2:ats=(t::ats').toArray:=by apply Array.ext';simpa using ht
   subst e2;obtain⟨kt,et,ki,c,E,V,G⟩:=BD hk;clear hk;split at G
   .rename_i e;subst e;obtain⟨l,hl,D⟩:=G;obtain⟨B,C,J,Y,X,h3⟩:=WjA (P:=P) (ty:=ty) (ats:=ats') E V (n:=n) hl;refine .inl ⟨_,B,?_,J,D _ Y X h3⟩;simp[execOp,resolve,d,invoke,builtin,C]
   .exact G.elim
  .rename_i sa sn sc n t t' H ht;have e1:=Qe hf H;have d:A.map a.eval = #[.slice sa sn sc,.int .i64 n]:=by apply Array.ext';simpa using e1
   have e2:ats = #[t,t']:=by apply Array.ext';simpa using ht
   subst e2;split at hk
   case h_2=>exact hk.elim
   rename_i e ki E hu';split at hk
   case h_2=>exact hk.elim
   rename_i M hi;split at hk
   case h_2=>exact hk.elim
   rename_i z S;rw[WJ]at hk;obtain⟨j,hk⟩:=hk;simp only[zF,zU]at j;obtain⟨r,B,C,J,D⟩:=NX (P:=P) (ty:=ty) E hu' hi S j.1 (Nat.blt_eq.mp j.2) hk;refine .inl ⟨_,B,?_,J,D⟩;simp only at C;simp[execOp,resolve,d,invoke,builtin,C]
  .rename_i da dn dc xa xn xc t ats' H ht;have e1:=Qe hf H;have d:A.map a.eval = #[.slice da dn dc,.slice xa xn xc]:=by apply Array.ext';simpa using e1
   have e2:ats=(t::ats').toArray:=by apply Array.ext';simpa using ht
   subst e2;split at hk
   case h_2=>exact hk.elim
   rename_i e E;split at hk
   case h_2=>exact hk.elim
   rename_i M hi;obtain⟨r,B,C,J,D⟩:=Tu (P:=P) (ty:=ty) (ats:=ats') E hi hk;refine .inl ⟨_,B,?_,J,D⟩;simp only at C;simp[execOp,resolve,d,invoke,builtin,C]
  .rename_i sa sn sc t H ht;have e1:=Qe hf H;have d:A.map a.eval = #[.slice sa sn sc]:=by apply Array.ext';simpa using e1
   have e2:ats = #[t]:=by apply Array.ext';simpa using ht
   subst e2;split at hk
   case h_2=>exact hk.elim
   rename_i e E;split at hk
   case h_2=>exact hk.elim
   rename_i M hi;split at hk
   case h_2=>exact hk.elim
   rename_i z S;rw[WJ]at hk;obtain⟨j,hk⟩:=hk;simp only[zF,zU]at j;obtain⟨B,C,J,D⟩:=TP (P:=P) (ty:=ty) E hi S j.1 (Nat.blt_eq.mp j.2) hk;refine .inl ⟨_,B,?_,J,D⟩;simp only at C;simp[execOp,resolve,d,invoke,builtin,C]
  .exact hk.elim
 .exact hk.elim
theorem LJ {k:IntKind}{c:CK}(p:MapEntry->Bool)(q:Int×c.T->Bool):∀(L:List MapEntry) (T:List (Int×c.T)),L.map (λe=>(e.key,e.val))=T.map (λx=>(Value.int k x.1,c.v x.2)) →
 (∀(j:Nat) (e:MapEntry) (y:Int×c.T),L[j]?=some e->T[j]?=some y->p e=q y)->(L.filter p).map (λe=>(e.key,e.val))=(T.filter q).map (λx=>(Value.int k x.1,c.v x.2))
 | [],T,h,_=>by
  cases T with
  | nil=>rfl
  | cons y T=>simp at h
 | e::L,[],h,_=>by simp at h
 | e::L,y::T,h,hpq=>by
  simp only[zR,List.cons.injEq]at h;have h0:=hpq 0 e y rfl rfl;have a:=LJ p q L T h.2 (λj i g d b=>hpq (j+1) i g (by simpa using d) (by simpa using b));simp only[tZ,h0];cases q y
  .simpa using a
  .simp[h.1,a]
theorem It.MS {P:Program}{r:Nat}{k:IntKind}{c:CK}{m:Option Nat}{l todo:List (Int×c.T)}{cur:Option (Int×c.T)}{w:World}(hit:It w.heap r k c m l todo cur)(ty:Nat) :
 (todo=[]/\∃w',(Instr.next (.pointer (some ⟨r,0,none⟩)) false ty).run P w=.ok (.tuple #[.bool false]) w'/\Xx w w'/\w'.heap=w.heap) ∨
 (∃n x w',(n,x)∈todo/\(Instr.next (.pointer (some ⟨r,0,none⟩)) false ty).run P w=.ok (.tuple #[.bool true,.int k n,c.v x]) w'/\Xx w w'/\Ka w.heap w'.heap r ∧
  It w'.heap r k c m l (todo.filter λy=>!(y.1==n)) (some (n,x))):=by
 cases m with
 | none=>
  obtain⟨rfl,rfl,rfl,s,q,y,hr⟩:=hit;exact .inl ⟨rfl,w,by simp[Instr.next,getObj,Sem.run,hr],.refl _,rfl⟩
 | some b=>
  obtain⟨es,clk,seen,hr,hb,he,hn,hp,hlt,htodo,hcur⟩:=hit;have hrlt:r<w.heap.size:=(jT.1 hr).1;have hrb:r≠b:=λe=>by rw[e,hb]at hr;cases hr
  have hchk:¬((!seen.isEmpty && !es.isEmpty&&es.all (·.born≥clk))=true):=by
   intro h;simp only[zF,mJ,Array.all_eq_true',zV]at h;obtain⟨⟨_,h2⟩,h3⟩:=h;have h2':es ≠ #[]:=by simpa[Ab]using h2
   obtain⟨e,hme⟩:=Array.exists_mem_of_ne_empty es h2';have:=h3 e hme;have:=hlt e (by simpa using hme);omega
  have hold:((es.filter λe=>!seen.contains e.born).filter (·.born<clk))=es.filter λe=>!seen.contains e.born:=by
   rw[Array.filter_eq_self];intro e hme;have:e∈es:=(Array.mem_filter.1 hme).1;simpa using hlt e (by simpa using this)
  have hnew:((es.filter λe=>!seen.contains e.born).filter (·.born≥clk)) = #[]:=by
   rw[Array.filter_eq_empty_iff];intro e hme;have:e∈es:=(Array.mem_filter.1 hme).1;have:=hlt e (by simpa using this);simp;omega
  have hlist:(es.filter λe=>!seen.contains e.born).toList=es.toList.filter λe=>!seen.contains e.born:=Array.toList_filter;have hrun:∀(cand:Array (Option MapEntry)),cand=(if(es.filter λe=>!seen.contains e.born).isEmpty then #[none]else #[])++(es.filter λe=>!seen.contains e.born).map some →
   (Instr.next (.pointer (some ⟨r,0,none⟩)) false ty).run P w=(do
    match cand[←choose (.mapNext cand.size)]? with
    | some (some e)=>do
     setObj r (.mapIter (some b) clk (seen.push e.born) clk)
     pure (.tuple #[.bool true,e.key,e.val])
    | some none=>pure (.tuple #[.bool false])
    | none=>stuck "Next: no such candidate" : Sem Value).run P w := by
   rintro cand rfl;simp only[Instr.next,getObj,Sem.run_bind,Sem.run,hr,Result.andThen_ok,hb,hchk,jV,hold,hnew,Array.append_empty,za,Sem.run_bind]
   try rfl
  cases htd:todo with
  | nil=>
   left;subst htd;have hnil:(es.filter λe=>!seen.contains e.born) = #[]:=by
    apply Array.ext';rw[hlist];have:=congrArg List.length htodo;simpa using this
   refine⟨rfl,w,?_,.refl _,rfl⟩;rw[hrun #[none] (by rw[hnil];simp)];simp[choose,Sem.run,Question.forced]
  | cons y ys=>
   right;have hlen:(es.filter λe=>!seen.contains e.born).size=todo.length:=by
    rw[←xd,hlist];simpa using congrArg List.length htodo
   have hne:(es.filter λe=>!seen.contains e.born).isEmpty=false:=by
    rw[htd]at hlen;simp only[zS]at hlen;cases hce:(es.filter λe=>!seen.contains e.born).isEmpty
    .rfl
    .rw[Ab]at hce;rw[hce]at hlen;simp at hlen
   have key:∀(i:Nat),i<todo.length->∀w1:World,w1.heap=w.heap->Xx w w1->∃n x w',(n,x)∈todo ∧
    ((match ((es.filter λe=>!seen.contains e.born).map some)[i]? with
     | some (some e)=>do
      setObj r (.mapIter (some b) clk (seen.push e.born) clk)
      pure (.tuple #[.bool true,e.key,e.val])
     | some none=>pure (.tuple #[.bool false])
     | none=>stuck "Next: no such candidate" : Sem Value)).run P w1 = .ok (.tuple #[.bool true, .int k n, c.v x]) w' /\ Xx w w' /\ Ka w.heap w'.heap r ∧
    It w'.heap r k c (some b) l (todo.filter λy=>!(y.1==n)) (some (n,x)):=by
    intro i hi w1 hw1 io;have hi':i<(es.filter λe=>!seen.contains e.born).size:=O
    let e:=(es.filter λe=>!seen.contains e.born)[i]
    have hei:(es.filter λe=>!seen.contains e.born)[i]?=some e:=by simp[e,hi']
    have hti:(es.toList.filter λe=>!seen.contains e.born)[i]?=some e:=by rw[←hlist,Az];exact hei
    have hty:todo[i]?=some todo[i]:=by simp[hi]
    have hkv:(e.key,e.val)=(Value.int k todo[i].1,c.v todo[i].2):=by
     have:=congrArg (λl=>l[i]?) htodo;simp only[zZ,hti,hty,ze,Option.some.injEq]at this;exact this
    simp only[Prod.mk.injEq]at hkv;have hmemF:e∈es.toList.filter λe=>!seen.contains e.born:=zG hti;have hme:e∈es.toList:=(zK.1 hmemF).1;have hns:seen.contains e.born=false:=by simpa using(zK.1 hmemF).2
    refine⟨todo[i].1,todo[i].2,{w1 with heap:=w1.heap.setIfInBounds r (.mapIter (some b) clk (seen.push e.born) clk)},ky _,?_,?_,?_,?_⟩
    .have hr1:w1.heap[r]?=some (.mapIter (some b) clk seen clk):=by rw[hw1];exact hr
     simp only[Array.getElem?_map,hei,ze,setObj,Sem.run_bind,Sem.run,hr1,Result.andThen_ok,Sem.run_pure,hkv.1,hkv.2]
    .exact⟨io.1,io.2.1,io.2.2.1,by simp only[Array.size_setIfInBounds];exact io.2.2.2⟩
    .rw[hw1];exact HF _ _ _
    .rw[hw1];refine⟨es,clk,seen.push e.born,by simp[hrlt],?_,he,hn,hp,hlt,?_,λx hx=>?_⟩
     .rw[Bj hrb];exact hb
     .-- the rest
      have hinj:∀e'∈es.toList,(e'.born==e.born)=true->e'=e:=by
       intro e' h1 h2;have h2':e'.born=e.born:=by simpa using h2
       obtain⟨p,hp1,ko⟩:=vK h1;obtain⟨q,hq1,hq2⟩:=vK hme;have hpw:=mB.1 hp;rcases qQ p q with h|h|h
       .have:=hpw p q (by simpa using hp1) (by simpa using hq1) h;simp[ko,hq2,h2']at this
       .subst h;rw[←ko,hq2]
       .have:=hpw q p (by simpa using hq1) (by simpa using hp1) h;simp[ko,hq2,h2']at this
      have hf1:(es.toList.filter λe'=>!(seen.push e.born).contains e'.born)=(es.toList.filter λe'=>!seen.contains e'.born).filter λe'=>!(e'.born==e.born):=by
       rw[BN];apply wa;intro e' _;simp[Array.contains_eq_mem,Array.mem_push];rw[Bool.and_comm]
       congr 1
      rw[hf1];refine LJ _ _ _ _ htodo λj e' y h1 h2=>?_;have hm':e'∈es.toList:=(zK.1 (zG h1)).1;have hkv':(e'.key,e'.val)=(Value.int k y.1,c.v y.2):=by
       have:=congrArg (λl=>l[j]?) htodo;simp only[zZ,h1,h2,ze,Option.some.injEq]at this;exact this
      simp only[Prod.mk.injEq]at hkv'
      congr 1
      rw[kZ];constructor
      .intro hb';have:=hinj e' hm' hb';subst this;have:=hkv'.1.symm.trans hkv.1;simp only[Value.int.injEq,uP]at this;simpa using this
      .intro hy;have hy':y.1=todo[i].1:=by simpa using hy
       have hkk:e'.key=e.key:=by rw[hkv'.1,hkv.1,hy']
       obtain⟨p,hp1,ko⟩:=vK hm';obtain⟨q,hq1,hq2⟩:=vK hme;have hll:es.toList.length=l.length:=by simpa using congrArg List.length he
       have hk1:∀(p:Nat) (hp:p<es.toList.length),es.toList[p].key=.int k (l[p]' O).1:=by
        intro p hp;have:=congrArg (λl=>l[p]?) he;simp only[zZ,cW hp,cW (show p<l.length by omega),ze,Option.some.injEq,Prod.mk.injEq]at this;exact this.1
       have e1:=hk1 p hp1;have e2:=hk1 q hq1;rw[ko]at e1;rw[hq2]at e2;rw[hkk,e2]at e1;simp only[Value.int.injEq,uP]at e1;have:p=q:=by
        have hnn:=mB.1 hn;rcases qQ p q with h|h|h
        .exact absurd (by rw[tP,tP];exact e1.symm) (hnn p q aE aE h)
        .exact h
        .exact absurd (by rw[tP,tP];exact e1) (hnn q p aE aE h)
       subst this;rw[←ko,←hq2];simp
     .cases hx;refine⟨e,hme,by simp,hkv.1,hkv.2⟩
   have hsz:((if(es.filter λe=>!seen.contains e.born).isEmpty then #[none]else #[])++(es.filter λe=>!seen.contains e.born).map some:Array (Option MapEntry))=(es.filter λe=>!seen.contains e.born).map some:=by
    rw[hne];simp
   rw[←htd];rw[hrun _ hsz.symm];have hpos:0<todo.length:=by rw[htd];simp
   simp only[Sem.run_bind,choose,Sem.run,Array.size_map,hlen];cases hfo:(Question.mapNext todo.length).forced
   .simp only[za,jV,Result.andThen_ok];exact key _ (by simp only[Question.cut];exact vz _ hpos) _ rfl ⟨rfl,rfl,rfl,zD _⟩
   .simp only[zT,Result.andThen_ok];exact key 0 hpos w rfl (.refl _)
theorem It.ent {P:Program}{r:Nat}{k:IntKind}{c:CK}{m:Option Nat}{l todo:List (Int×c.T)}{n:Int}{x:c.T}{w:World}(hit:It w.heap r k c m l todo (some (n,x))) :
 (Instr.entry (.pointer (some ⟨r,0,none⟩))).run P w=.ok (.tuple #[.int k n,c.v x]) w:=by
 cases m with
 | none=>obtain⟨_,_,h,_⟩:=hit;cases h
 | some b=>
  obtain⟨z,B,A,G,F,K,L,J,C,y,i⟩:=hit;obtain⟨e,u,g,H,E⟩:=i _ rfl;have a:z.find? (·.born==e.born)=some e:=by
   rw[←Array.find?_toList,List.find?_eq_some_iff_getElem];obtain⟨p,d,ko⟩:=vK u;refine⟨by simp,p,d,ko,λj D=>?_⟩;have s:=mB.1 J j p (by simp;simp at d;omega) (by simpa using d) D;rw[tP,tP,ko]at s;rw[mJ];cases hb2:(z.toList[j].born==e.born)
   .rfl
   .have:=zU.1 hb2;omega
  simp[Instr.entry,getObj,Sem.run,G,F,g,a,H,E]
def AZ (k:IntKind)(c:CK)(o:Op)(ρ:Env)(h:Hp)(K:Value->Hp->Prop):Prop:=
 match o with
 | .next x false=>wv (ev ρ x) λv=>match v with
  | .pointer (some a)=>pE k c a h (K (.tuple #[.bool false]) h) λn y h'=>K (.tuple #[.bool true,.int k n,c.v y]) h'
  | _=>False
 | .entry x=>wv (ev ρ x) λv=>match v with
  | .pointer (some a)=>po k c a h λn y=>K (.tuple #[.int k n,c.v y]) h
  | _=>False
 | _=>False
theorem It.spot {a:Addr}(h:a.off=0):∃s,a=⟨a.block,0,s⟩:=⟨a.spot,by cases a;simp at h;subst h;rfl⟩
theorem Ij {P:Program}{k:IntKind}{c:CK}{ρ:Env}{K:Value->Hp->Prop}{a:Act}{w:World}(hf:∀x v,ev ρ x=some v->a.eval x=v)(o:Oper)(hk:AZ k c o.op ρ w.heap K):Kw P (execOp a.eval o) w K:=by
 obtain⟨D,op,r,pos,i,z⟩:=o;simp only at hk;unfold AZ at hk;split at hk
 .rename_i x;obtain⟨v,j,hk⟩:=WA hk;simp only[execOp,hf _ _ j];split at hk
  case h_2=>exact hk.elim
  rename_i ad;obtain⟨p,m,l,g,B,d,A,E⟩:=hk;obtain⟨s,u⟩:=It.spot p;have b:∀w:World,(Instr.next (.pointer (some ad)) false r).run P w=(Instr.next (.pointer (some ⟨ad.block,0,none⟩)) false r).run P w:=by
   intro w;rw[u];rfl
  rcases d.MS (P:=P) r with⟨ht,w',hr,io,hh⟩|⟨n,y,w',hm,hr,io,ho,hi'⟩
  .exact .inl ⟨.tuple #[.bool false],w',by simp[b,hr],io,by rw[hh];exact A ht⟩
  .exact .inl ⟨.tuple #[.bool true,.int k n,c.v y],w',by simp[b,hr],io,E n y hm _ ho hi'⟩
 .rename_i x;obtain⟨v,j,hk⟩:=WA hk;simp only[execOp,hf _ _ j];split at hk
  case h_2=>exact hk.elim
  rename_i ad;obtain⟨p,m,l,g,n,y,d,C⟩:=hk;obtain⟨s,u⟩:=It.spot p;have b:(Instr.entry (.pointer (some ad))).run P w=(Instr.entry (.pointer (some ⟨ad.block,0,none⟩))).run P w:=by
   rw[u];rfl
  exact .inl ⟨.tuple #[.int k n,c.v y],w,by simp[b,d.ent (P:=P)],.refl _,C⟩
 .exact hk.elim
structure Fits (N:Nat) (ρ:Env) (a:Act):Prop where
 defers:a.defers=[]
 size:a.tmps.size=N
 at_:∀i v,ρ i=some v->a.tmps[i]?=some v
theorem Fits.ev {N:Nat}{ρ:Env}{a:Act}(h:Fits N ρ a):∀x v,ev ρ x=some v->a.eval x=v:=by
 intro x v hx;cases x with
 | tmp t=>
  have:=h.at_ t v hx;simp[Act.eval,sQ,this]
 | const u=>simp only[Vc.ev,Option.some.injEq]at hx;exact hx
 | global g=>simp only[Vc.ev,Option.some.injEq]at hx;exact hx
 | func f=>simp only[Vc.ev,Option.some.injEq]at hx;exact hx
def sv (N:Nat):Option Nat->Bool
 | some d=>Nat.blt d N
 | none=>true
theorem Fits.put {N:Nat}{ρ:Env}{a:Act}(h:Fits N ρ a){d:Option Nat}(hd:sv N d=true)(v:Value):Fits N (ρ.il d v) (a.put d v):=by
 cases d with
 | none=>exact h
 | some d=>
  have j:d<N:=Nat.blt_eq.mp hd;refine⟨h.defers,by simp[Act.put,h.size],λi u b=>?_⟩;simp only[Env.il,Env.put]at b;cases hi:Nat.beq i d
  .rw[hi]at b;have g:i≠d:=λe=>by subst e;simp at hi
   simp only[Act.put];rw[Bj (Ne.symm g)];exact h.at_ i u b
  .rw[hi]at b;have e:i=d:=kf hi;subst e;simp only[cond_true,Option.some.injEq]at b;subst b;simp[Act.put,h.size,j]
theorem Fits.weaken {N:Nat}{ρ ρ':Env}{a:Act}(h:Fits N ρ a)(hw:∀i v,ρ' i=some v->ρ i=some v):Fits N ρ' a:=
 ⟨h.defers,h.size,λi v b=>h.at_ i v (hw i v b)⟩
theorem yA (ρ:Env)(ds:List Nat):∀i v,ρ.eC ds i=some v->ρ i=some v:=by
 intro i v h;simp only[Env.eC]at h;cases hc:ds.contains i<;>rw[hc]at h<;>simp at h
 exact h
theorem Fits.lit {N:Nat}{ρ:Env}{a:Act}(h:Fits N ρ a){c:Nat}{b b':Bool}(hc:ρ c=some (.bool b))(e:b=b'):Fits N (ρ.put c (.bool b')) a:=by
 subst e;refine h.weaken λi v d=>?_;simp only[Env.put]at d;cases hi:Nat.beq i c
 .rw[hi]at d;exact d
 .rw[hi]at d;have e:i=c:=kf hi;subst e;rw[hc];exact d
def oF (ops:Array Oper)(o:Oper)(ρ:Env):Bool:=
 match o.guard with
 | none=>true
 | some (j,want)=>match (ops[j]?).bind (·.dst)with
  | some c=>match ρ c with
   | some (.bool b)=>b==want
   | _=>false
  | none=>false
def uD (ops:Array Oper)(o:Oper)(ρ:Env):Bool:=
 match o.guard with
 | none=>false
 | some (j,want)=>match (ops[j]?).bind (·.dst)with
  | some c=>match ρ c with
   | some (.bool b)=>!(b==want)
   | some (.tuple _)=>true
   | _=>false
  | none=>false
theorem ZL {N:Nat}{ops:Array Oper}{o:Oper}{ρ:Env}{a:Act}(hf:Fits N ρ a)(h:oF ops o ρ=true):Region.wanted o (yielded ops a.tmps)=true:=by
 unfold oF at h;unfold Region.wanted;cases hg:o.guard with
 | none=>rfl
 | some jw=>
  obtain⟨j,d⟩:=jw;rw[hg]at h;simp only at h ⊢;cases hc:(ops[j]?).bind (·.dst)with
  | none=>rw[hc]at h;cases h
  | some c=>
   rw[hc]at h;simp only at h;split at h
   .rename_i b hb;have:=hf.at_ c _ hb;simp only[yielded,hc,Option.bind_some,this];simpa using h
   .cases h
theorem Vv {N:Nat}{ops:Array Oper}{o:Oper}{ρ:Env}{a:Act}(hf:Fits N ρ a)(h:uD ops o ρ=true):Region.wanted o (yielded ops a.tmps)=false:=by
 unfold uD at h;unfold Region.wanted;cases hg:o.guard with
 | none=>rw[hg]at h;cases h
 | some jw=>
  obtain⟨j,d⟩:=jw;rw[hg]at h;simp only at h ⊢;cases hc:(ops[j]?).bind (·.dst)with
  | none=>rw[hc]at h;cases h
  | some c=>
   rw[hc]at h;simp only at h;split at h
   .rename_i b hb;have:=hf.at_ c _ hb;simp only[yielded,hc,Option.bind_some,this];simpa using h
   .rename_i b hb;have:=hf.at_ c _ hb;simp only[yielded,hc,Option.bind_some,this];rfl
   .cases h
def US (N:Nat)(ops:Array Oper):List Oper->Env->Bool
 | [],_=>true
 | o::os,ρ=>uD ops o ρ&&(sv N o.dst&&US N ops os (ρ.il o.dst undef))
theorem Fa {P:Program}{N:Nat}{ops:Array Oper}{Q:Exit->Act->World->Prop}{tail:List Oper}{w:World}:∀{os:List Oper} {ρ:Env} {a:Act},US N ops os ρ=true->Fits N ρ a →
 (∀a',Fits N (ρ.eC (os.filterMap (·.dst))) a'->wpList P ops Q tail a' w)->wpList P ops Q (os++tail) a w
 | [],ρ,a,_,hf,h=>h a (hf.weaken (yA _ _))
 | o::os,ρ,a,hs,hf,h=>by
  simp only[US,zF]at hs;obtain⟨h1,h2,h3⟩:=hs;have p:=Vv hf h1;simp only[lN,wpList,p];refine Fa h3 (hf.put h2 _) λa' j=>h a' (j.weaken λi v b=>?_);simp only[Env.eC]at b ⊢;cases hc:(List.filterMap (·.dst) (o::os)).contains i
  .rw[hc]at b;simp only[cond_false]at b;have g:(List.filterMap (·.dst) os).contains i=false:=by
    cases hd:o.dst<;>simp_all
   have m:∀d,o.dst=some d->i≠d:=by
    intro d hd;simp_all
   rw[g];simp only[cond_false];cases hd:o.dst with
   | none=>exact b
   | some d=>
    have:=m d hd;simp only[Env.il,Env.put];have:Nat.beq i d=false:=by
     cases hb:Nat.beq i d
     .rfl
     .exact absurd (kf hb) this
    rw[this];exact b
  .rw[hc]at b;cases b
theorem LP {P:Program}{N:Nat}{ops:Array Oper}{Q:Act->Prop}{tail:List Oper}{w:World}:∀{os:List Oper} {ρ:Env} {a:Act},US N ops os ρ=true->Fits N ρ a →
 (∀a',Fits N (ρ.eC (os.filterMap (·.dst))) a'->wpStill P ops w Q tail a')->wpStill P ops w Q (os++tail) a
 | [],ρ,a,_,hf,h=>h a (hf.weaken (yA _ _))
 | o::os,ρ,a,hs,hf,h=>by
  simp only[US,zF]at hs;obtain⟨h1,h2,h3⟩:=hs;have p:=Vv hf h1;simp only[lN,wpStill,p];refine LP h3 (hf.put h2 _) λa' j=>h a' (j.weaken λi v b=>?_);simp only[Env.eC]at b ⊢;cases hc:(List.filterMap (·.dst) (o::os)).contains i
  .rw[hc]at b;simp only[cond_false]at b;have g:(List.filterMap (·.dst) os).contains i=false:=by
    cases hd:o.dst<;>simp_all
   have m:∀d,o.dst=some d->i≠d:=by
    intro d hd;simp_all
   rw[g];simp only[cond_false];cases hd:o.dst with
   | none=>exact b
   | some d=>
    have:=m d hd;simp only[Env.il,Env.put];have:Nat.beq i d=false:=by
     cases hb:Nat.beq i d
     .rfl
     .exact absurd (kf hb) this
    rw[this];exact b
  .rw[hc]at b;cases b
def bX (K:aO)(body:(Bool->Hp->Prop)->Prop):Prop:=∃J:Bool->Hp->Prop,(∀r h,J r h->K r h)/\body J
theorem bX.intro {K:aO}{body:(Bool->Hp->Prop)->Prop}(h:body K):bX K body:=⟨K,λ_ _ h=>h,h⟩
inductive RI where
 | op
 | it (k:IntKind) (c:CK)
 | cZ (and:Bool) (n:Nat) (inner:List RI)
def Ef (b:Bool):Operand->Bool
 | .const (.bool b')=>b'==b
 | _=>false
def UO (ρ:Env)(x:Operand)(K:Bool->Prop):Prop:=match ev ρ x with
 | some (.bool r)=>K r
 | _=>False
def sR (ρ:Env)(c:Nat)(b:Bool):Bool:=match ρ c with
 | some (.bool b')=>b'==b
 | _=>false
def eJ (P:Program)(N:Nat)(ops:Array Oper):Nat->List RI->List Oper->Env->Hp->(Env->Hp->Prop)->Prop
 | 0,_,_,_,_,_=>False
 | _+1,[],[],ρ,h,K=>K ρ h
 | n+1,.op::hs,o::os,ρ,h,K=>fU (oF ops o ρ&&sv N o.dst) (sW P o.op o.type ρ h λv h'=>eJ P N ops n hs os (ρ.il o.dst v) h' K)
 | n+1,.it ki c::hs,o::os,ρ,h,K=>fU (oF ops o ρ&&sv N o.dst) (AZ ki c o.op ρ h λv h'=>eJ P N ops n hs os (ρ.il o.dst v) h' K)
 | n+1,.cZ and m inner::hs,os,ρ,h,K=>
  match os.drop m with
  | pk::rest=>match pk.op,pk.dst with
   | .pick (.tmp c) x y,some d=>match ρ c with
    | some (.bool b)=>fU (Nat.blt d N&&(Ef (!and) (bif and then y else x)&&(oF ops pk (ρ.eC ((os.take m).filterMap (·.dst)))&&(sR ((ρ.put c (.bool (!and))).eC ((os.take m).filterMap (·.dst))) c (!and)&&US N ops (os.take m) (ρ.put c (.bool (!and)))))))
     (bX (λr h'=>eJ P N ops n hs rest ((ρ.eC ((os.take m).filterMap (·.dst))).put d (.bool r)) h' K) λJ=>
      bif and then If b (eJ P N ops n inner (os.take m) (ρ.put c (.bool true)) h λρ' h'=>fU (oF ops pk ρ'&&sR ρ' c true) (UO ρ' x λr=>J r h')) (J false h)
      else If b (J true h) (eJ P N ops n inner (os.take m) (ρ.put c (.bool false)) h λρ' h'=>fU (oF ops pk ρ'&&sR ρ' c false) (UO ρ' y λr=>J r h')))
    | _=>False
   | _,_=>False
  | []=>False
 | _,_,_,_,_,_=>False
theorem U6 {P:Program}{ρ:Env}{K:Value->Hp->Prop}{a:Act}{w:World}(hf:∀x v,ev ρ x=some v->a.eval x=v)(o:Oper)(hk:sW P o.op o.type ρ w.heap K) :
 Kw P (execOp a.eval o) w K:=by
 unfold sW at hk;cases hq:uz o.op
 .rw[hq]at hk;exact On hf o hk
 .rw[hq]at hk;obtain⟨v,d,b⟩:=Aj hf o hk;exact .inl ⟨v,w,d,.refl _,b⟩
theorem Vd {ρ:Env}{x:Operand}{K:Bool->Prop}(h:UO ρ x K):∃r,ev ρ x=some (.bool r)/\K r:=by
 unfold UO at h;split at h
 .exact⟨_,by assumption,h⟩
 .exact h.elim
theorem D0 {b:Bool}{x:Operand}(h:Ef b x=true)(ρ:Operand->Value)(hc:∀v,ρ (.const v)=v):ρ x=.bool b:=by
 unfold Ef at h;split at h
 .rw[hc];simp at h;rw[h]
 .cases h
theorem IT {P:Program}{a:Act}{w:World}{o:Oper}{c x y:Operand}{b r:Bool}{K:Value->Hp->Prop}(ho:o.op=.pick c x y)(hc:a.eval c=.bool b)(hr:a.eval (bif b then x else y)=.bool r)(hK:K (.bool r) w.heap) :
 Kw P (execOp a.eval o) w K:=by
 obtain⟨i,op,j,pos,g,d⟩:=o;simp only at ho;subst ho;refine .inl ⟨_,w,?_,.refl _,hK⟩;cases b<;>simp at hr<;>simp[execOp,hc,asBool,hr]
def Ug (os:List Oper)(ρ ρ':Env):Prop:=∀i,(os.filterMap (·.dst)).contains i=false->∀v,ρ i=some v->ρ' i=some v
theorem Ug.cons {o:Oper}{os:List Oper}{ρ ρ':Env}{v:Value}(h:Ug os (ρ.il o.dst v) ρ'):Ug (o::os) ρ ρ':=by
 intro i hi u hu;cases hd:o.dst with
 | none=>rw[hd]at h;exact h i (by simpa[hd]using hi) u hu
 | some d=>
  rw[hd]at h;simp[hd]at hi;refine h i (by simpa using hi.2) u ?_;simp only[Env.il,Env.put];have:Nat.beq i d=false:=by
   cases hb:Nat.beq i d
   .rfl
   .exact absurd (kf hb) hi.1
  rw[this];exact hu
theorem Ug.cZ {os rest:List Oper}{pk:Oper}{m d:Nat}{ρ ρ':Env}{r:Bool}(hd:pk.dst=some d)(hdrop:os.drop m=pk::rest)(h:Ug rest ((ρ.eC ((os.take m).filterMap (·.dst))).put d (.bool r)) ρ'):Ug os ρ ρ':=by
 intro i hi u hu;rw[←oQ m os,hdrop,xD,CJ,hd]at hi;simp only[s7,zJ,zW,decide_eq_false_iff_not,not_or]at hi;refine h i (by simpa using hi.2.2) u ?_;simp only[Env.put,Env.eC];have:Nat.beq i d=false:=by
  cases hb:Nat.beq i d
  .rfl
  .exact absurd (kf hb) hi.2.1
 rw[this];have a:((os.take m).filterMap (·.dst)).contains i=false:=by simpa using hi.1
 rw[a];exact hu
theorem Fits.vA {N:Nat}{os:List Oper}{ρ ρ':Env}{a:Act}{c:Nat}{b b':Bool}(h:Fits N ρ' a)(hc:ρ c=some (.bool b))(e:b=b')(k:Ug os (ρ.put c (.bool b')) ρ'):Fits N (ρ.eC (os.filterMap (·.dst))) a:=by
 refine h.weaken λi v d=>?_;simp only[Env.eC]at d;cases hci:(os.filterMap (·.dst)).contains i
 .rw[hci]at d;refine k i hci v ?_;simp only[Env.put];cases hb:Nat.beq i c
  .exact d
  .have e2:i=c:=kf hb;subst e2;simp only[cond_false]at d;rw[hc]at d;simp only[cond_true];rw[←e];exact d
 .rw[hci]at d;cases d
theorem U5 {ρ:Env}{c:Nat}{b:Bool}(h:sR ρ c b=true):ρ c=some (.bool b):=by
 unfold sR at h;split at h
 .rename_i b' hb;simp at h;rw[hb,h]
 .cases h
theorem Ve {P:Program}{N:Nat}{ops:Array Oper}{Q:Exit->Act->World->Prop}:∀(n:Nat) {hs:List RI} {os:List Oper} {tail:List Oper} {ρ:Env} {a:Act} {w:World} {K:Env->Hp->Prop},
 eJ P N ops n hs os ρ w.heap K->Fits N ρ a->(∀ρ' a' w',Fits N ρ' a'->Xx w w'->Ug os ρ ρ'->K ρ' w'.heap->wpList P ops Q tail a' w')->wpList P ops Q (os++tail) a w
 | 0,_,_,_,_,_,_,_,h,_,_=>(by simp only[eJ]at h)
 | n+1,[],[],tail,ρ,a,w,K,h,hf,hK=>by
  simp only[eJ]at h;exact hK ρ a w hf (.refl _) (λ_ _ _ h=>h) h
 | n+1,[],o::os,tail,ρ,a,w,K,h,hf,hK=>(by simp only[eJ]at h)
 | n+1,.op::hs,[],tail,ρ,a,w,K,h,hf,hK=>(by simp only[eJ]at h)
 | n+1,.op::hs,o::os,tail,ρ,a,w,K,h,hf,hK=>by
  simp only[eJ]at h;rw[WJ]at h;obtain⟨hc,h⟩:=h;simp only[zF]at hc;have M:=ZL hf hc.1;simp only[lN,wpList,M,zT];refine .inl (Kw.upon (U6 hf.ev o h) λv w' D s=>?_);exact Ve n s (hf.put hc.2 v) λρ' a' A g p F u=>hK ρ' a' A g (D.trans p) F.cons u
 | n+1,.it ki c::hs,[],tail,ρ,a,w,K,h,hf,hK=>(by simp only[eJ]at h)
 | n+1,.it ki c::hs,o::os,tail,ρ,a,w,K,h,hf,hK=>by
  simp only[eJ]at h;rw[WJ]at h;obtain⟨hc,h⟩:=h;simp only[zF]at hc;have M:=ZL hf hc.1;simp only[lN,wpList,M,zT];refine .inl (Kw.upon (Ij hf.ev o h) λv w' D s=>?_);exact Ve n s (hf.put hc.2 v) λρ' a' A g p F u=>hK ρ' a' A g (D.trans p) F.cons u
 | n+1,.cZ and m inner::hs,os,tail,ρ,a,w,K,h,hf,hK=>by
  simp only[eJ]at h;split at h
  case h_2=>exact h.elim
  rename_i pk rest hdrop;split at h
  case h_2=>exact h.elim
  rename_i c x y d hop hd;split at h
  case h_2=>exact h.elim
  rename_i b hb;rw[WJ]at h;obtain⟨hc,J,hJ,h⟩:=h;simp only[zF]at hc;obtain⟨R,U,W,ab,C⟩:=hc;have ad:sv N pk.dst=true:=by rw[hd];exact R
  have ac:os++tail=os.take m++(pk::rest++tail):=by
   rw[←hdrop,←zl,oQ]
  rw[ac];have j:∀(r b':Bool) (z:Operand) a' w',b=b'->(bif b' then x else y)=z->Fits N (ρ.eC ((os.take m).filterMap (·.dst))) a'->Xx w w'->J r w'.heap->Region.wanted pk (yielded ops a'.tmps)=true →
   a'.eval (.tmp c)=.bool b'->a'.eval z=.bool r->wpList P ops Q (pk::rest++tail) a' w':=by
   intro r b' z a' w' e ez g D L M E hez;simp only[lN,wpList,M,zT];refine .inl (Kw.upon (K:=λv Z=>v=.bool r/\Z=w'.heap) (IT hop E (by rw[ez];exact hez) ⟨rfl,rfl⟩) λv A p s=>?_);obtain⟨rfl,hh⟩:=s;have aa:=g.put (d:=some d) R (.bool r);rw[hd];have V:=hJ _ _ L;rw[←hh]at V;exact Ve n V aa λρ' Y w3 G S F u=>hK ρ' Y w3 G ((D.trans p).trans S) (Ug.cZ hd hdrop F) u
  have run:∀(b':Bool) (z:Operand),b=b'->(bif b' then x else y)=z →
   eJ P N ops n inner (os.take m) (ρ.put c (.bool b')) w.heap (λρ' Z=>fU (oF ops pk ρ'&&sR ρ' c b') (UO ρ' z λr=>J r Z))->wpList P ops Q (os.take m++(pk::rest++tail)) a w:=by
   intro b' z e ez hseg;refine Ve n hseg (hf.lit hb e) λρ' a' w' g D F s=>?_;rw[WJ]at s;simp only[zF]at s;obtain⟨⟨hg,X⟩,s⟩:=s;obtain⟨r,hr,L⟩:=Vd s;exact j r b' z a' w' e ez (g.vA hb e F) D L (ZL g hg) (g.ev _ _ (U5 X)) (g.ev _ _ hr)
  have B:∀(b':Bool),b=b'->b' = !and->J (!and) w.heap->wpList P ops Q (os.take m++(pk::rest++tail)) a w:=by
   intro b' e eb L;subst eb;refine Fa C (hf.lit hb e) λa' g=>?_;have H:Fits N (ρ.eC ((os.take m).filterMap (·.dst))) a':=g.vA (ρ':=(ρ.put c (.bool (!and))).eC ((os.take m).filterMap (·.dst))) hb e (λi hi v hv=>by simp only[Env.eC,hi];exact hv);have E:=g.ev (.tmp c) _ (U5 ab);refine j (!and) (!and) (bif (!and)then x else y) a' w e rfl H (.refl _) L (ZL H W) E ?_;refine D0 ?_ _ (λv=>rfl);cases and<;>exact U
  cases and
  .simp only[cond_false]at h;cases b
   .exact run false y rfl rfl (h.f rfl)
   .exact B true rfl rfl (h.t rfl)
  .simp only[cond_true]at h;cases b
   .exact B false rfl rfl (h.f rfl)
   .exact run true x rfl rfl (h.t rfl)
variable {P:Program}{ops:Array Oper}{Q:Exit->Act->World->Prop}
def wK (ops:Array Oper)(k i:Nat):Bool:=match ops[k]? with
 | none=>false
 | some o=>o.after.toList.any λe=>Region.binds .any e&&Nat.beq e.on i
def TS (S:World->Prop)(C:List Nat)(listed:Array Bool)(w:World):Prop:=S w\/∃k∈C,listed.getD k false=true
def anyS (P:Program)(ops:Array Oper)(Q:Exit->Act->World->Prop)(S:World->Prop)(C:List Nat):Nat->Array Bool->Act->World->Prop
 | 0,listed,a,w=>Region.ready .any ops listed=[]/\Q .normal a w
 | m+1,listed,a,w=>(Region.ready .any ops listed=[]->Q .normal a w) ∧
  ∀i,i∈Region.ready .any ops listed->wpOp P ops Q i (λa' w'=>TS S C (listed.setIfInBounds i true) w'/\anyS P ops Q S C m (listed.setIfInBounds i true) a' w') a w
theorem Uz {S:World->Prop}{C:List Nat}:∀(m:Nat) (listed:Array Bool) (a:Act) (w:World),anyS P ops Q S C m listed a w->wpAny P .any ops Q m listed a w
 | 0,_,_,_,h=>h
 | m+1,_,_,_,h=>⟨h.1,λi hi=>wpOp_mono (λ_ _ h'=>Uz m _ _ _ h'.2) (h.2 i hi)⟩
theorem TS.out {S:World->Prop}{C:List Nat}{listed:Array Bool}{w:World}(h:TS S C listed w)(hn:∀k∈C,listed.getD k false=false):S w:=by
 rcases h with h|⟨k,hk,hl⟩
 .exact h
 .rw[hn k hk]at hl;cases hl
theorem ML {k i:Nat}{o:Oper}(ho:ops[k]?=some o)(hno:∀e∈o.after,Region.binds .any e=true->e.on≠i):wK ops k i=false:=by
 unfold wK;rw[ho];simp only;rw[mG];intro e he hb;simp only[zF]at hb;exact hno e (by simpa using he) hb.1 (kf hb.2)
theorem TS.drop {S:World->Prop}{C:List Nat}{listed:Array Bool}{w:World}{i j:Nat}(hij:i≠j)(hi:∀k∈C,k≠i)(h:TS S C ((listed.setIfInBounds i true).setIfInBounds j true) w):TS S C (listed.setIfInBounds j true) w:=by
 refine h.imp id ?_;rintro⟨k,hk,hl⟩;refine⟨k,hk,?_⟩;rw[Array.setIfInBounds_comm _ _ hij,getD_set_ne false (Ne.symm (hi k hk))]at hl;exact hl
theorem Rh {S T:World->Prop}{C:List Nat}{i:Nat}{oi:Oper}{v:Value}(hi:ops[i]?=some oi)(hsel:∀(j:Nat) (o:Oper) cs b,ops[j]?=some o->o.op≠.select cs b)
 (hQ:∀c a w,Q (.panic c) (a.put oi.dst v) w->Q (.panic c) a w) (hiC:∀k∈C,k≠i) (hT:(∀w,T w)\/((∀w,S w->T w)/\∀k∈C,wK ops k i=true)) :
 ∀(m:Nat) (listed:Array Bool) (a:Act) (w:World),
  (∀j oj,ops[j]?=some oj->j≠i->listed.getD j true=false->(∀e∈oj.after,Region.binds .any e=true->e.on≠i)->oi.apart ops oj=true) →
  i∈Region.ready .any ops listed->((∀w,T w)\/∀k∈C,listed.getD k false=false)->YieldsIf P ops T oi v a->TS S C listed w →
  anyS P ops Q S C m (listed.setIfInBounds i true) (a.put oi.dst v) w->anyS P ops Q S C (m+1) listed a w:=by
 have s:∀{listed:Array Bool} {a:Act} {w:World} {K:Act->World->Prop},((∀w,T w)\/∀k∈C,listed.getD k false=false)->YieldsIf P ops T oi v a->TS S C listed w->K (a.put oi.dst v) w →
  wpOp P ops Q i (λG B=>TS S C (listed.setIfInBounds i true) B/\K G B) a w:=by
  intro listed a w K g hy hS hK;refine hy.wpOp hi ?_ ⟨?_,hK⟩
  .rcases hT with hT|⟨hT,_⟩
   .exact hT w
   .rcases g with g|g
    .exact g w
    .exact hT w (hS.out g)
  .refine hS.imp id ?_;rintro⟨k,u,hl⟩;exact⟨k,u,by rw[getD_set_ne false (Ne.symm (hiC k u))];exact hl⟩
 intro m
 induction m with
 | zero=>
  intro listed a w _ hr g hy hS H;refine⟨λh=>by rw[h]at hr;simp at hr,λj D=>?_⟩;by_cases hji:j=i
  .rw[hji];exact s g hy hS H
  .have p:=ready_mono D hji;rw[H.1]at p;simp at p
 | succ m ih=>
  intro listed a w hfree hr g hy hS H;refine⟨λh=>by rw[h]at hr;simp at hr,λj D=>?_⟩;by_cases hji:j=i
  .rw[hji];exact s g hy hS H
  .obtain⟨x,oj,r,A⟩:=mem_ready.1 D;have d:=(mem_ready.1 hr).1;have y:∀e∈oj.after,Region.binds .any e=true->e.on≠i:=by
    intro e he hb heq;have p:=A e he hb;rw[heq]at p;rw[sQ]at p d;cases hg:listed[i]? with
    | none=>rw[hg]at p;cases p
    | some b=>rw[hg]at p d;simp only[qL]at p d;rw[d]at p;cases p
   have M:=wpOp_putIf r (hfree j oj r hji x y) (λcs b=>hsel i oi cs b hi) (λcs b=>hsel j oj cs b r) hQ hy (H.2 j (ready_mono D hji));refine wpOp_mono (λG B J=>?_) M;have z:=J.2.1.drop (Ne.symm hji) hiC;refine⟨z,ih _ G B (λk ok u F L E=>?_) (ready_mono hr (Ne.symm hji)) ?_ J.1 z ?_⟩
   .refine hfree k ok u F ?_ E;by_cases hjk:j=k
    .rw[←hjk];exact x
    .rwa [getD_set_ne true hjk]at L
   .rcases hT with hT|⟨_,hw⟩
    .exact .inl hT
    refine g.imp id λg k u=>?_;by_cases hjk:j=k
    .exfalso;have:=hw k u;rw[←hjk,ML r y]at this;cases this
    .rw[getD_set_ne false hjk];exact g k u
   .rw[Array.setIfInBounds_comm _ _ hji];exact J.2.2
theorem Bq {S T:World->Prop}{C:List Nat}{i m:Nat}{oi:Oper}{v:Value}{listed:Array Bool}{a:Act}{w:World}(hi:ops[i]?=some oi)(hs:Region.noSelect ops=true)(hf:Region.free .any ops listed i=true)
 (hr:i∈Region.ready .any ops listed) (hQ:∀c a w,Q (.panic c) (a.put oi.dst v) w->Q (.panic c) a w) (hiC:C.contains i=false)
 (hT:(∀w,T w)\/((∀w,S w->T w)/\∀k∈C,wK ops k i=true)) (hn:(∀w,T w)\/∀k∈C,listed.getD k false=false) (hy:YieldsIf P ops T oi v a) (hS:TS S C listed w)
 (h:anyS P ops Q S C m (listed.setIfInBounds i true) (a.put oi.dst v) w):anyS P ops Q S C (m+1) listed a w:=
 Rh hi (Region.noSelect_spec hs) hQ (λk b e=>by subst e;rw[Bg.2 b]at hiC;cases hiC) hT m listed a w (Region.free_spec hi hf) hr hn hy hS h
theorem WkA {S:World->Prop}{C:List Nat}{rs:List Nat}{m:Nat}{listed:Array Bool}{a:Act}{w:World}(hr:Region.ready .any ops listed=rs)(hne:rs≠[])
 (h:∀i∈rs,wpOp P ops Q i (λa' w'=>TS S C (listed.setIfInBounds i true) w'/\anyS P ops Q S C m (listed.setIfInBounds i true) a' w') a w):anyS P ops Q S C (m+1) listed a w:=
 ⟨λb=>absurd (hr▸b) hne,hr▸h⟩
theorem O6 {S:World->Prop}{C:List Nat}{listed:Array Bool}{a:Act}{w:World}(hr:Region.ready .any ops listed=[])(h:Q .normal a w):∀m,anyS P ops Q S C m listed a w
 | 0=>⟨hr,h⟩
 | _+1=>⟨λ_=>h,by rw[hr];simp⟩
theorem Hq {S:World->Prop}{C:List Nat}{id:Nat}{a:Act}{w:World}(hm:P.follows .mixedOrders=true)
 (h:anyS P ops Q S C ops.size (Array.replicate ops.size false) a {w with drawn:=w.drawn+1}):(Code.region id ops true).wp P Q a w:=
 wp_region_any hm (Uz _ _ _ _ h)
end Go.Vc
namespace Go.Vc
open Go
def G8 (P:Program):Op->Bool
 | .load _ _=>false
 | .lookup .. => false
 | .typeAssert .. => false
 | .binOp _ t _ y _=>match P.underlying t with
  | some (.pointer _)=>uj y
  | _=>true
 | .convert s _ _=>match P.underlying s with
  | some (.slice _)=>false
  | _=>true
 | .call c=>match c.callee,c.argTypes.toList with
  | .builtin .len,[t]=>match P.underlying t with
   | some (.map _ _)=>false
   | some _=>true
   | none=>false
  | .builtin .cap,_=>true
  | .builtin .max,_=>true
  | .builtin .min,_=>true
  | _,_=>false
 | o=>uz o
theorem Bx {op:BinOp}{k:IntKind}{x y:Int}{K:Value->Prop}(h:qE op k x y K):∃v,K v/\qE op k x y (· = v):=by
 cases op<;>simp only[qE,Ar,Nz,Nn]at h ⊢
 all_goals first
  | exact⟨_,h,rfl⟩
  | exact⟨_,h.2,h.1,rfl⟩
theorem Gk {op:BinOp}{b:Bool}{K:Value->Prop}(h:nD op b K):∃v,K v/\nD op b (· = v):=by
 cases op<;>simp only[nD]at h ⊢ <;> first|exact h.elim|exact⟨_,h,rfl⟩
theorem SN {P:Program}{op:BinOp}{t:Nat}{x y:Value}{K:Value->Prop}(h:mb P op t x y K):∃v,K v/\mb P op t x y (· = v):=by
 unfold mb at h ⊢;split at h
 .obtain⟨v,a,b⟩:=Gk h;exact⟨v,a,by simp only[*]⟩
 .obtain⟨v,a,b⟩:=Gk h;exact⟨v,a,by simp only[*]⟩
 .obtain⟨v,a,b⟩:=Gk h;exact⟨v,a,by simp only[*]⟩
 .obtain⟨hi,h⟩:=h;obtain⟨v,a,b⟩:=Gk h;exact⟨v,a,by simp only[*];trivial⟩
 .exact h.elim
theorem Nj {P:Program}{op:BinOp}{t:Nat}{x y:Value}{K:Value->Prop}(h:mw P op t x y K):∃v,K v/\mw P op t x y (· = v):=by
 unfold mw at h ⊢;split at h
 .split at h
  .obtain⟨v,a,b⟩:=Bx h;exact⟨v,a,by simpa[*]using b⟩
  .rename_i hne;cases op<;>simp only at h
   all_goals try exact h.elim
   .obtain⟨v,a,b⟩:=Bx h;exact⟨v,a,by simpa[hne]using b⟩
   .obtain⟨v,a,b⟩:=Bx h;exact⟨v,a,by simpa[hne]using b⟩
 .split at h
  .obtain⟨v,a,b⟩:=Gk h;exact⟨v,a,by simp only[*]⟩
  .exact h.elim
 .cases op<;>simp only at h ⊢ <;> first|exact h.elim|exact⟨_,h,rfl⟩
 .exact h.elim
theorem Mt {P:Program}{op:BinOp}{t:Nat}{xs ys:List Value}{K:Value->Prop}(h:nE P op t xs ys K):∃v,K v/\nE P op t xs ys (· = v):=by
 unfold nE at h ⊢;split at h
 case h_3=>exact h.elim
 all_goals
  rename_i hu;rw[WJ]at h;obtain⟨g,h⟩:=h;split at h
  case h_2=>exact h.elim
  rename_i b hb;obtain⟨v,a,d⟩:=Gk h;exact⟨v,a,by simp only[hu,WJ,hb];exact⟨g,d⟩⟩
theorem NA {P:Program}{op:BinOp}{t:Nat}{y:Operand}{vx vy:Value}{hp:Hp}{K:Value->Prop}(hpure:(match P.underlying t with|some (.pointer _)=>uj y|_=>true)=true)(h:wT P op t y vx vy hp K):∃v,K v/\∀hp',wT P op t y vx vy hp' (· = v):=by
 unfold wT at h ⊢;cases hn:uj y
 .rw[hn]at h;simp only[cond_false]at h ⊢;split at h
  .obtain⟨v,a,b⟩:=Mt h;exact⟨v,a,λ_=>b⟩
  .exfalso;unfold rY at h;split at h
   .rename_i e hu;rw[hu]at hpure;simp only[hn]at hpure;cases hpure
   .exact h
  .obtain⟨v,a,b⟩:=Nj h;exact⟨v,a,λ_=>by simpa only using b⟩
 .rw[hn]at h;obtain⟨v,a,b⟩:=SN h;exact⟨v,a,λ_=>b⟩
theorem vD {o:Option Value}{K:Value->Prop}(h:wv o K):∃v,K v/\wv o (· = v):=by
 obtain⟨v,rfl,a⟩:=WA h;exact⟨v,a,rfl⟩
theorem NT {P:Program}{t off:Nat}{cs:List Value}{K:Value->Prop}(h:wG P t cs off K):∃v,K v/\wG P t cs off (· = v):=by
 unfold wG at h ⊢;split at h
 case h_2=>exact h.elim
 rename_i d ti hu hi;cases hd:UW d
 .rw[hd]at h;obtain⟨v,a,b⟩:=vD h;exact⟨v,a,by simpa[hd]using b⟩
 .rw[hd]at h;exact⟨_,h,by simp⟩
theorem Wkh {P:Program}{t:Nat}{ps:List (Nat×Value)}{K:Value->Prop}(h:nF P t ps K):∃v,K v/\nF P t ps (· = v):=by
 unfold nF at h ⊢;split at h
 .split at h
  .rename_i z hz;have key:∀{ps:List (Nat×Value)} {raw:Nat->Bool} {A:Prop},l9 raw ps A->A/\∀B:Prop,B->l9 raw ps B:=by
    intro ps raw
    induction ps with
    | nil=>intro A h;exact⟨h,λB b=>b⟩
    | cons x ps ih=>
     intro A h;simp only[l9]at h ⊢;cases hr:raw x.1
     .rw[hr]at h;exact ih h
     .rw[hr]at h;simp only[cond_true]at h ⊢;exact⟨(ih h.2).1,λB b=>⟨h.1,(ih h.2).2 B b⟩⟩
   obtain⟨h,a⟩:=key h;split at h
   .rename_i cs hf;rw[WJ]at h;refine⟨_,h.2,?_⟩;simp only[*];refine a _ ?_;rw[WJ]
    first|exact⟨h.1,trivial⟩|exact⟨rfl,trivial⟩
   .exact h.elim
  .exact h.elim
 .split at h
  .split at h
   .refine⟨_,h,?_⟩;simp only[*]
   .exact h.elim
  .exact h.elim
 .exact h.elim
theorem Nx {P:Program}{t:Nat}{x:Value}{lo hi mx:Option Value}{K:Value->Prop}(h:nK P t x lo hi mx K):∃v,K v/\nK P t x lo hi mx (· = v):=by
 unfold nK at h ⊢;split at h
 case h_2=>exact h.elim
 rename_i e a n c hu;split at h
 case h_2=>exact h.elim
 rename_i ti hi';simp only at h ⊢;split at h
 case h_2=>exact h.elim
 rename_i l hh m hlo hhi hmx;obtain⟨g,b,d,i,j⟩:=h;refine⟨_,j,?_⟩;simp only[hu,hi',hlo,hhi,hmx];exact⟨g,b,d,i,rfl⟩
theorem Cr:∀{vs:List Value} {v:Value} {b:Bool} {K:Value->Prop},qk b v vs K->∃z,K z/\qk b v vs (· = z)
 | [],v,b,K,h=>⟨v,by simpa[qk]using h,by simp[qk]⟩
 | u::vs,v,b,K,h=>by
  cases v<;>cases u<;>simp only[qk]at h ⊢ <;> try exact h.elim
  exact Cr h
theorem WmK {P:Program}{o:Op}(hp:G8 P o=true){ρ:Env}{h:Hp}{K:Value->Prop}(hk:qK P o ρ h K):∃v,K v/\∀h',qK P o ρ h' (· = v):=by
 unfold qK at hk;split at hk
 case h_1 x=>obtain⟨v,a,g⟩:=vD hk;exact⟨v,a,λ_=>g⟩
 case h_2 x=>obtain⟨v,a,g⟩:=vD hk;exact⟨v,a,λ_=>g⟩
 case h_3 c x y=>
  obtain⟨v,B,hk⟩:=WA hk;split at hk
  .obtain⟨u,a,g⟩:=vD hk;exact⟨u,a,λ_=>by simpa only[qK,B,wv]using g⟩
  .obtain⟨u,a,g⟩:=vD hk;exact⟨u,a,λ_=>by simpa only[qK,B,wv]using g⟩
  .exact hk.elim
 case h_4=>simp[G8]at hp
 case h_5 x=>
  obtain⟨v,B,hk⟩:=WA hk;split at hk
  .obtain⟨D,rfl,A⟩:=hk;exact⟨_,A,λ_=>by simp only[qK,B,wv];exact⟨D,rfl,rfl⟩⟩
  .exact⟨_,hk,λ_=>by simp only[qK,B,wv]⟩
  .exact hk.elim
 case h_6 op t x y yt=>
  obtain⟨p,j,hk⟩:=WA hk;obtain⟨N,L,C⟩:=WA hk;obtain⟨v,a,g⟩:=NA hp C;exact⟨v,a,λ_=>by simpa only[qK,j,L,wv]using g _⟩
 case h_7 op t x=>
  obtain⟨p,j,hk⟩:=WA hk;split at hk
  .exact⟨_,hk,λ_=>by simp only[qK,j,wv]⟩
  .exact⟨_,hk,λ_=>by simp only[qK,j,wv,Ar]⟩
  .exact hk.elim
 case h_8 s d x=>
  obtain⟨p,j,hk⟩:=WA hk;split at hk
  .rename_i a g;exact⟨_,hk,λ_=>by simp only[qK,j,wv,a,g,Ar]⟩
  .rename_i a g;exact⟨_,hk,λ_=>by simp only[qK,j,wv,a,g]⟩
  .rename_i a g;simp[G8,a]at hp
  .exact hk.elim
 case h_9 s x f=>
  obtain⟨p,j,hk⟩:=WA hk;obtain⟨H,J,E,z,hk⟩:=A0 hk;split at hk
  .rw[WJ]at hk;exact⟨_,hk.2,λ_=>by simp only[qK,j,wv,nH,E,z,WJ];exact⟨hk.1,trivial⟩⟩
  .exact hk.elim
 case h_10 s x f=>
  obtain⟨p,j,hk⟩:=WA hk;obtain⟨H,J,E,z,hk⟩:=A0 hk;split at hk
  .obtain⟨v,a,g⟩:=NT hk;exact⟨v,a,λ_=>by simpa only[qK,j,wv,nH,E,z]using g⟩
  .exact hk.elim
 case h_11 t x i=>
  obtain⟨p,j,hk⟩:=WA hk;obtain⟨G,hi,hk⟩:=WA hk;split at hk
  .have r:=(by assumption:P.underlying t=some _);rw[WJ]at hk;obtain⟨a,D,rfl,g,w,A⟩:=hk;exact⟨_,A,λ_=>by simp only[qK,j,hi,wv,r,WJ];exact⟨a,D,rfl,g,w,rfl⟩⟩
  .have r:=(by assumption:P.underlying t=some _);rw[WJ]at hk;obtain⟨a,g,w,A⟩:=hk;exact⟨_,A,λ_=>by simp only[qK,j,hi,wv,r,WJ];exact⟨a,g,w,rfl⟩⟩
  .exact hk.elim
 case h_12 t x i=>
  obtain⟨p,j,hk⟩:=WA hk;obtain⟨G,hi,hk⟩:=WA hk;split at hk
  .have r:=(by assumption:P.underlying t=some _);obtain⟨b,a,g,A⟩:=hk;exact⟨_,A,λ_=>by simp only[qK,j,hi,wv,r];exact⟨b,a,g,rfl⟩⟩
  .exact hk.elim
 case h_13=>simp[G8]at hp
 case h_14 t i=>
  obtain⟨p,j,hk⟩:=WA hk;split at hk
  .obtain⟨v,a,g⟩:=vD hk;exact⟨v,a,λ_=>by simpa only[qK,j,wv]using g⟩
  .exact hk.elim
 case h_15 fn x y=>
  split at hk
  .rename_i va vb a g;exact⟨_,hk,λ_=>by simp only[qK,a,g]⟩
  .exact hk.elim
 case h_16 t ps=>
  split at hk
  .rename_i vs a;obtain⟨v,g,w⟩:=Wkh hk;exact⟨v,g,λ_=>by simpa only[qK,a]using w⟩
  .exact hk.elim
 case h_17 t x lo hi mx=>
  obtain⟨p,j,hk⟩:=WA hk;split at hk
  .rename_i l h m a g w;obtain⟨v,M,F⟩:=Nx hk;exact⟨v,M,λ_=>by simpa only[qK,j,wv,a,g,w]using F⟩
  .exact hk.elim
 case h_18 t x=>
  obtain⟨p,j,hk⟩:=WA hk;rw[WJ]at hk;exact⟨_,hk.2,λ_=>by simp only[qK,j,wv,WJ];exact⟨hk.1,trivial⟩⟩
 case h_19=>simp[G8]at hp
 case h_20 c=>
  split at hk
  .rename_i x t hc ha ht;unfold lT at hk;split at hk
   .exact⟨_,hk,λ_=>by simp only[qK,hc,ha,ht,lT, *]⟩
   .exact⟨_,hk,λ_=>by simp only[qK,hc,ha,ht,lT, *]⟩
   .exact⟨_,hk,λ_=>by simp only[qK,hc,ha,ht,lT, *]⟩
   .rename_i r;simp only[G8,hc,ht,r]at hp;cases hp
   .exact hk.elim
  .rename_i hc ha ht;split at hk
   .exact⟨_,hk,λ_=>by simp only[qK,hc,ha,ht, *]⟩
   .exact hk.elim
  .rename_i hc ha;obtain⟨v,a,g⟩:=Cr hk;exact⟨v,a,λ_=>by simpa only[qK,hc,ha]using g⟩
  .rename_i hc ha;obtain⟨v,a,g⟩:=Cr hk;exact⟨v,a,λ_=>by simpa only[qK,hc,ha]using g⟩
  .exact hk.elim
 .exact hk.elim
def gF (S:aP)(c:CK)(a:Addr)(K:c.T->Prop):Prop:=∃x,(∀h,S h->cell h a=some (c.v x))/\K x
def tU (S:aP):List CK->Addr->Nat->(List Value->Prop)->Prop
 | [],_,_,K=>K []
 | c::cs,a,i,K=>gF S c (a.add i) λx=>tU S cs a (i+1) λvs=>K (c.v x::vs)
def PU (S:aP)(k:IntKind)(c:CK)(m:Option Nat)(n:Int)(K:Option c.T->Prop):Prop:=∃l,(∀h,S h->ju h m k c l)/\K (bS l n)
def Α (S:aP)(k:IntKind)(c:CK)(m:Option Nat)(K:Int->Prop):Prop:=∃l,(∀h,S h->ju h m k c l)/\K (l.length:Int)
def qS (P:Program)(S:aP)(o:Op)(ρ:Env)(K:Value->Prop):Prop:=
 match o with
 | .load t a=>wv (ev ρ a) λv=>match v,j0 P t with
  | .pointer (some a),some (.one c)=>fU (P.info? t).isSome (gF S c a λx=>K (c.v x))
  | .pointer (some a),some (.agg cs)=>fU (P.cellsOf t==cs.length) (fU (P.info? t).isSome (tU S cs a 0 λvs=>K (.agg vs.toArray)))
  | _,_=>False
 | .lookup t x i ok=>wv (ev ρ x) λvx=>wv (ev ρ i) λvi=>match P.underlying t,vx,vi with
  | some (.map kt et),.map m,.int k n=>match P.underlying kt,oR P et,P.info? et with
   | some (.int k'),some (.one c),some ti=>match ti.zero with
    | some z=>if k=k' then ni c z λz=>PU S k c m n λo=>K (bif ok then .tuple #[c.v (o.getD z),.bool o.isSome]else c.v (o.getD z))else False
    | none=>False
   | _,_,_=>False
  | _,_,_=>False
 | .call c=>match c.callee,qR ρ c.args.toList,c.argTypes.toList with
  | .builtin .len,some [.map m],[t]=>tu P t λk c=>Α S k c m λz=>K (.int .i64 z)
  | _,_,_=>False
 | _=>False
theorem LM {S:aP}:∀{cs:List CK} {a:Addr} {i:Nat} {K:List Value->Prop},tU S cs a i K->∃vs,K vs/\∀h,S h->nZ cs a i h (· = vs)
 | [],a,i,K,hk=>⟨[],hk,λh _=>rfl⟩
 | c::cs,a,i,K,⟨x,hx,hk⟩=>by
  obtain⟨vs,hK,hall⟩:=LM hk;refine⟨c.v x::vs,hK,λh b=>?_⟩;have g:nZ cs a (i+1) h λus=>c.v x::us=c.v x::vs:=by
   have key:∀{cs:List CK} {i:Nat} {K K':List Value->Prop},(∀vs,K vs->K' vs)->nZ cs a i h K->nZ cs a i h K':=by
    intro cs
    induction cs with
    | nil=>intro i K K' hh hk;exact hh _ hk
    | cons c cs ih=>
     intro i K K' hh hk;simp only[nZ]at hk ⊢;cases c<;>(obtain⟨y,p,hk⟩:=hk;exact⟨y,p,ih (λvs j=>hh _ j) hk⟩)
   exact key (λus d=>by rw[d]) (hall h b)
  simp only[nZ];have m:=hx h b;cases c<;>exact⟨x,m,g⟩
theorem MT {P:Program}{t:Nat}{K:IntKind->CK->Prop}(h:tu P t K):∃kt et k c,P.underlying t=some (.map kt et)/\P.underlying kt=some (.int k)/\oR P et=some (.one c)/\K k c:=by
 unfold tu at h;split at h
 .split at h
  .exact⟨_,_,_,_,by assumption,by assumption,by assumption,h⟩
  .exact h.elim
 .exact h.elim
theorem ND {P:Program}{S:aP}{o:Op}{ρ:Env}{K:Value->Prop}(hk:qS P S o ρ K):∃v,K v/\∀h,S h->qK P o ρ h (· = v):=by
 unfold qS at hk;split at hk
 .obtain⟨L,r,hk⟩:=WA hk;split at hk
  .rename_i ad c hs;rw[WJ]at hk;obtain⟨s,x,w,b⟩:=hk;refine⟨_,b,λh d=>?_⟩;simp only[qK,r,wv,hs,WJ];refine⟨s,?_⟩;have u:=w h d;cases c<;>exact⟨x,u,rfl⟩
  .rename_i ad cs hs;rw[WJ,WJ]at hk;obtain⟨s,E,hk⟩:=hk;obtain⟨vs,b,p⟩:=LM hk;refine⟨_,b,λh d=>?_⟩;simp only[qK,r,wv,hs,WJ];refine⟨s,E,?_⟩;have key:∀{cs:List CK} {i:Nat} {K K':List Value->Prop},(∀vs,K vs->K' vs)->nZ cs ad i h K->nZ cs ad i h K':=by
    intro cs
    induction cs with
    | nil=>intro i K K' hh hk;exact hh _ hk
    | cons c cs ih=>
     intro i K K' hh hk;simp only[nZ]at hk ⊢;cases c<;>(obtain⟨y,J,hk⟩:=hk;exact⟨y,J,ih (λvs D=>hh _ D) hk⟩)
   exact key (λus g=>by rw[g]) (p h d)
  .exact hk.elim
 .obtain⟨Q,w,j⟩:=WA hk;obtain⟨N,hi,a⟩:=WA j;clear hk j;split at a
  case h_2=>exact a.elim
  rename_i F G m k n g;split at a
  case h_2=>exact a.elim
  rename_i k' c ti hkk hs hti;split at a
  case h_2=>exact a.elim
  rename_i z hz;split at a
  case isFalse=>exact a.elim
  rename_i e;subst e;obtain⟨M,rfl,l,B,b⟩:=Uk a;refine⟨_,b,λh d=>?_⟩;simp only[qK,w,hi,wv,A3,g,hkk,hs,hti,hz,zT];have H:=B h d;rw[Nf];exact⟨l,H,rfl⟩
 .split at hk
  .rename_i m t u r ht;obtain⟨F,G,k,c,g,A,C,l,B,b⟩:=MT hk;refine⟨_,b,λh d=>?_⟩;simp only[qK,u,r,ht,lT,g,A,C];exact⟨l,B h d,rfl⟩
  .exact hk.elim
 .exact hk.elim
structure iq (ops:Array Oper) (listed:Array Bool) (D:List Nat):Prop where
 size:listed.size=ops.size
 at_:∀j,j<ops.size->listed[j]?=some (D.contains j)
 lt:∀j∈D,j<ops.size
theorem iq.getD {ops:Array Oper}{listed:Array Bool}{D:List Nat}(h:iq ops listed D){j:Nat}(hj:j<ops.size)(b:Bool):listed.getD j b=D.contains j:=by
 rw[sQ,h.at_ j hj];rfl
theorem iq.nA {ops:Array Oper}{listed:Array Bool}{D:List Nat}(h:iq ops listed D)(j:Nat):listed.getD j false=D.contains j:=by
 rcases kv j ops.size with hj|hj
 .exact h.getD hj false
 .rw[sQ,Array.getElem?_eq_none (by rw[h.size];exact hj)]
  symm
  simp only[Option.getD_none,s7,decide_eq_false_iff_not];exact λa=>by have:=h.lt j a;omega
theorem iq.start (ops:Array Oper):iq ops (Array.replicate ops.size false) []:=
 ⟨by simp,λj a=>by simp[a],λj a=>by simp at a⟩
theorem iq.cons {ops:Array Oper}{listed:Array Bool}{D:List Nat}(h:iq ops listed D){i:Nat}(hi:i<ops.size):iq ops (listed.setIfInBounds i true) (i::D):=by
 refine⟨by simp[h.size],λj a=>?_,λj a=>?_⟩
 .by_cases hij:i=j
  .subst hij;simp[h.size,a]
  .rw[Bj hij,h.at_ j a];have:(j==i)=false:=by simpa using λe=>hij e.symm
   simp only[List.contains_cons,this,xN]
 .rcases zW.1 a with rfl|h'
  .exact hi
  .exact h.lt j h'
def nb (ops:Array Oper)(D:List Nat)(i:Nat):Bool:=match ops[i]? with
 | none=>false
 | some o=>!D.contains i&&o.after.toList.all λe=>!Region.binds .any e||D.contains e.on
def BZ (ops:Array Oper)(D:List Nat)(i:Nat):Bool:=match ops[i]? with
 | none=>false
 | some oi=>(List.range ops.size).all λj=>Nat.beq j i||(D.contains j||match ops[j]? with
  | some oj=>oj.after.toList.any (λe=>Region.binds .any e&&Nat.beq e.on i)||oi.apart ops oj
  | none=>true)
theorem BS {ops:Array Oper}{D:List Nat}{i:Nat}(h:nb ops D i=true):i<ops.size:=by
 unfold nb at h;split at h
 .cases h
 .rename_i o ho;exact(jT.1 ho).1
theorem An {ops:Array Oper}{listed:Array Bool}{D:List Nat}(h:iq ops listed D)(i:Nat):i∈Region.ready .any ops listed↔nb ops D i=true:=by
 rw[mem_ready];unfold nb;cases ho:ops[i]? with
 | none=>simp
 | some o=>
  have hi:i<ops.size:=(jT.1 ho).1;simp only[h.getD hi,Option.some.injEq,exists_eq_left',zF,mJ,kF,nS];constructor
  .rintro⟨h1,h2⟩;refine⟨h1,λe a=>?_⟩;cases b:Region.binds .any e
   .exact .inl rfl
   .right;have:=h2 e (by simpa using a) b
    rwa [h.nA]at this
  .rintro⟨h1,h2⟩;refine⟨h1,λe a b=>?_⟩;have:=h2 e (by simpa using a);rw[b]at this;rw[h.nA];simpa using this
theorem Gs {ops:Array Oper}{listed:Array Bool}{D:List Nat}(h:iq ops listed D){i:Nat}(hf:BZ ops D i=true):Region.free .any ops listed i=true:=by
 unfold BZ at hf;unfold Region.free;cases ho:ops[i]? with
 | none=>rw[ho]at hf;cases hf
 | some oi=>
  rw[ho]at hf;simp only[kF,zg]at hf ⊢;intro j hj;have:=hf j hj;rw[h.getD hj];simp only[nS]at this ⊢;rcases this with h1|h1|h1
  .exact .inl (.inl (by simpa using kf h1))
  .exact .inl (.inr h1)
  .right;split at h1
   .rename_i oj hoj;simp only[hoj,nS]at h1 ⊢;rcases h1 with h1|h1
    .left;rw[zy]at h1;obtain⟨e,b,a⟩:=h1;simp only[zF]at a;rw[Array.any_eq_true'];exact⟨e,by simpa using b,by simp[a.1,kf a.2]⟩
    .exact .inr h1
   .rename_i hoj;simp[hoj]
inductive SH where
 | done
 | take (i:Nat) (r:SH)
 | split (c:Nat) (t f:SH)
 | all (l:List (Nat×SH))
def SH.tk:List Nat->SH->SH
 |[],s=>s
 |i::l,s=>.take i (SH.tk l s)
def Sx (sm:Bool)(S:aP)(h:Hp)(X:Prop):Prop:=match sm with
 | true=>S h/\X
 | false=>X
def shut (C D:List Nat):Bool:=C.any λk=>D.contains k
def uv (f:Nat->SH->Prop):List (Nat×SH)->Prop
 | []=>True
 | [x]=>f x.1 x.2
 | x::y::l=>f x.1 x.2/\uv f (y::l)
def UR (P:Program)(N:Nat)(ops:Array Oper)(sm:Bool)(C:List Nat)(S:aP)(K:Env->Hp->Prop):Nat->Nat->SH->List Nat->Env->Hp->Prop
 | 0,_,_,_,_,_=>False
 | n+1,_,.done,D,ρ,h=>fU ((List.range ops.size).all λj=>D.contains j) (K ρ h)
 | n+1,m+1,.take i r,D,ρ,h=>match ops[i]? with
  | some o=>fU (nb ops D i&&(BZ ops D i&&(sv N o.dst && !C.contains i)))
   (bif uD ops o ρ then UR P N ops sm C S K n m r (i::D) (ρ.il o.dst undef) h
    else fU (oF ops o ρ) (bif G8 P o.op then qK P o.op ρ h λv=>UR P N ops sm C S K n m r (i::D) (ρ.il o.dst v) h
     else fU (sm&&((C.all λk=>wK ops k i) && !shut C D)) (qS P S o.op ρ λv=>UR P N ops sm C S K n m r (i::D) (ρ.il o.dst v) h)))
  | none=>False
 | n+1,m,.split c t f,D,ρ,h=>UO ρ (.tmp c) λb=>If b (UR P N ops sm C S K n m t D (ρ.put c (.bool true)) h) (UR P N ops sm C S K n m f D (ρ.put c (.bool false)) h)
 | n+1,m+1,.all l,D,ρ,h=>fU ((!l.isEmpty&&l.all λx=>Nat.blt x.1 ops.size)&&((List.range ops.size).all λj=>nb ops D j==l.any λx=>Nat.beq x.1 j))
  (uv (λi r=>match ops[i]? with
   | some o=>fU (sv N o.dst) (bif uD ops o ρ then Sx (sm && !shut C (i::D)) S h (UR P N ops sm C S K n m r (i::D) (ρ.il o.dst undef) h)
    else fU (oF ops o ρ) (sW P o.op o.type ρ h λv h'=>Sx (sm && !shut C (i::D)) S h' (UR P N ops sm C S K n m r (i::D) (ρ.il o.dst v) h')))
   | none=>False) l)
 | _,_,_,_,_,_=>False
def dT (h:Hp)(body:(Hp->Prop)->Prop):Prop:=∃S:Hp->Prop,S h/\body S
theorem E0 {f:Nat->SH->Prop}:∀{l:List (Nat×SH)},uv f l->∀x∈l,f x.1 x.2
 | [],_,x,hx=>by simp at hx
 | [y],h,x,hx=>by simp at hx;subst hx;exact h
 | y::z::l,h,x,hx=>by
  rcases zW.1 hx with rfl|hx
  .exact h.1
  .exact E0 h.2 x hx
theorem xX {ds:List Nat}{ρ ρ':Env}{ops:Array Oper}{i:Nat}{o:Oper}(ho:ops[i]?=some o){v:Value}
 (k:∀j,(ops.toList.filterMap (·.dst)).contains j=false->∀u,(ρ.il o.dst v) j=some u->ρ' j=some u):∀j,(ops.toList.filterMap (·.dst)).contains j=false->∀u,ρ j=some u->ρ' j=some u:=by
 intro j hj u hu;refine k j hj u ?_;cases hd:o.dst with
 | none=>exact hu
 | some d=>
  simp only[Env.il,Env.put];cases hb:Nat.beq j d
  .exact hu
  .have e:j=d:=kf hb;subst e;exfalso;simp only[s7,decide_eq_false_iff_not,yi,not_exists,not_and]at hj;refine hj o ?_ hd;have:=AN ho;simpa using this
def TD (S:aP)(C D:List Nat)(h:Hp):Prop:=S h\/shut C D=true
theorem TD.ts {S:aP}{C D:List Nat}{ops:Array Oper}{listed:Array Bool}{w:World}(hD:iq ops listed D)(h:TD S C D w.heap):TS (λw=>S w.heap) C listed w:=by
 refine h.imp id λa=>?_;unfold shut at a;rw[zy]at a;obtain⟨k,b,d⟩:=a;exact⟨k,b,by rw[hD.nA];exact d⟩
theorem SU {C D:List Nat}{ops:Array Oper}{listed:Array Bool}(hD:iq ops listed D)(h:shut C D=false):∀k∈C,listed.getD k false=false:=by
 intro k hk;unfold shut at h;rw[mG]at h;rw[hD.nA];simpa using h k hk
theorem Pd {C D:List Nat}{i:Nat}(h:shut C D=true):shut C (i::D)=true:=by
 unfold shut at *;rw[zy]at *;obtain⟨k,a,b⟩:=h;refine⟨k,a,?_⟩;rw[Bg]at *;exact l7 _ b
theorem Le {sm:Bool}{S:aP}{C D:List Nat}{h:Hp}{X:Prop}(hs:sm=false->∀h,S h)(hx:Sx (sm && !shut C D) S h X):TD S C D h/\X:=by
 cases hc:shut C D
 .rw[hc]at hx;simp only[x8,vv]at hx;cases sm
  .exact⟨.inl (hs rfl h),hx⟩
  .exact⟨.inl hx.1,hx.2⟩
 .rw[hc]at hx;simp only[Bool.not_true,uu]at hx;exact⟨.inr hc,hx⟩
theorem Qy {P:Program}{N:Nat}{ops:Array Oper}{sm:Bool}{C:List Nat}{S:aP}{K:Env->Hp->Prop}{Qn:Act->World->Prop}(hsel:Region.noSelect ops=true)(hsm:sm=false->∀h,S h):∀(n m:Nat) {sh:SH} {D:List Nat} {ρ:Env} {a:Act} {w:World} {listed:Array Bool},
 UR P N ops sm C S K n m sh D ρ w.heap->Fits N ρ a->iq ops listed D->TD S C D w.heap->(∀ρ' a' w',Fits N ρ' a'->Xx w w'->Ug ops.toList ρ ρ'->K ρ' w'.heap->Qn a' w') →
 anyS P ops (λe a w=>match e with | .normal=>Qn a w|_=>False) (λw=>S w.heap) C m listed a w
 | 0,m,sh,D,ρ,a,w,listed,h,hf,hD,hS,hK=>(by simp only[UR]at h)
 | n+1,m,.done,D,ρ,a,w,listed,h,hf,hD,hS,hK=>by
  have h':fU ((List.range ops.size).all λj=>D.contains j) (K ρ w.heap):=by cases m<;>exact h
  rw[WJ]at h';refine O6 ?_ (hK ρ a w hf (.refl _) (λ_ _ _ h=>h) h'.2) m;rw[List.eq_nil_iff_forall_not_mem];intro j hj;have B:=(An hD j).1 hj;have:=kF.1 h'.1 j (zg.2 (BS B));unfold nb at B;split at B
  .cases B
  .rw[this]at B;simp at B
 | n+1,0,.take i r,D,ρ,a,w,listed,h,hf,hD,hS,hK=>(by simp only[UR]at h)
 | n+1,m+1,.take i r,D,ρ,a,w,listed,h,hf,hD,hS,hK=>by
  simp only[UR]at h;split at h
  case h_2=>exact h.elim
  rename_i o ho;rw[WJ]at h;obtain⟨hc,h⟩:=h;simp only[zF,mJ]at hc;obtain⟨W,U,s,V⟩:=hc;have hi:=BS W;have z:i∈Region.ready .any ops listed:=(An hD i).2 W;have p:TD S C (i::D) w.heap:=hS.imp id Pd;cases hg:uD ops o ρ
  .rw[hg]at h;simp only[cond_false]at h;rw[WJ]at h;obtain⟨Q,h⟩:=h;have hw:=ZL hf Q;cases hp:G8 P o.op
   .rw[hp]at h;simp only[cond_false]at h;rw[WJ]at h;obtain⟨L,h⟩:=h;simp only[zF,mJ,kF]at L;obtain⟨v,H,G⟩:=ND h;refine Bq (T:=λw=>S w.heap) ho hsel (Gs hD U) z (λ_ _ _ h=>h) V (.inr ⟨λ_ h=>h,L.2.1⟩) (.inr (SU hD L.2.2)) (v:=v) (.inl ⟨hw,λw' p=>?_⟩) (hS.ts hD) ?_
    .obtain⟨u,B,rfl⟩:=Aj hf.ev o (G w'.heap p);exact B
    .exact Qy hsel hsm n m H (hf.put s v) (hD.cons hi) p λρ' a' w' d F E g=>hK ρ' a' w' d F (xX (ds:=[]) ho E) g
   .rw[hp]at h;simp only[cond_true]at h;obtain⟨v,H,G⟩:=WmK hp h;refine Bq (T:=λ_=>True) ho hsel (Gs hD U) z (λ_ _ _ h=>h) V (.inl λ_=>trivial) (.inl λ_=>trivial) (v:=v) (.inl ⟨hw,λw' _=>?_⟩) (hS.ts hD) ?_
    .obtain⟨u,B,rfl⟩:=Aj hf.ev o (G w'.heap);exact B
    .exact Qy hsel hsm n m H (hf.put s v) (hD.cons hi) p λρ' a' w' d F E g=>hK ρ' a' w' d F (xX (ds:=[]) ho E) g
  .rw[hg]at h;simp only[cond_true]at h;refine Bq (T:=λ_=>True) ho hsel (Gs hD U) z (λ_ _ _ h=>h) V (.inl λ_=>trivial) (.inl λ_=>trivial) (v:=undef) (.inr ⟨Vv hf hg,rfl⟩) (hS.ts hD) ?_;exact Qy hsel hsm n m h (hf.put s undef) (hD.cons hi) p λρ' a' w' d F E g=>hK ρ' a' w' d F (xX (ds:=[]) ho E) g
 | n+1,m,.split c t f,D,ρ,a,w,listed,h,hf,hD,hS,hK=>by
  have h':UO ρ (.tmp c) λb=>If b (UR P N ops sm C S K n m t D (ρ.put c (.bool true)) w.heap) (UR P N ops sm C S K n m f D (ρ.put c (.bool false)) w.heap):=by cases m<;>exact h
  obtain⟨b,hb,h12⟩:=Vd h';have A:=λe=>h12.t e;have h2:=λe=>h12.f e;have R:ρ c=some (.bool b):=hb;have kk:∀(b':Bool),b=b'->∀ρ',Ug ops.toList (ρ.put c (.bool b')) ρ'->Ug ops.toList ρ ρ':=by
   intro b' e ρ' k i hi u hu;refine k i hi u ?_;simp only[Env.put];cases hic:Nat.beq i c
   .exact hu
   .have e2:i=c:=kf hic;subst e2;rw[R]at hu;simp only[cond_true];rw[←e];exact hu
  cases b
  .exact Qy hsel hsm n m (h2 rfl) (hf.lit R rfl) hD hS λρ' a' w' d F E g=>hK ρ' a' w' d F (kk false rfl ρ' E) g
  .exact Qy hsel hsm n m (A rfl) (hf.lit R rfl) hD hS λρ' a' w' d F E g=>hK ρ' a' w' d F (kk true rfl ρ' E) g
 | n+1,0,.all l,D,ρ,a,w,listed,h,hf,hD,hS,hK=>(by simp only[UR]at h)
 | n+1,m+1,.all l,D,ρ,a,w,listed,h,hf,hD,hS,hK=>by
  simp only[UR]at h;rw[WJ]at h;obtain⟨hc,h⟩:=h;simp only[zF,mJ,kF,zg,zU]at hc;obtain⟨⟨hne,hlt⟩,Y⟩:=hc;have Z:∀j,j∈Region.ready .any ops listed->∃r,(j,r)∈l:=by
   intro j hj;have B:=(An hD j).1 hj;have:=Y j (BS B);rw[B]at this;have:=zy.1 this.symm;obtain⟨x,hx,hb⟩:=this;have e:x.1=j:=kf hb;exact⟨x.2,by rw[←e];exact hx⟩
  refine WkA (rs:=Region.ready .any ops listed) rfl ?_ λj hj=>?_
  .intro hnil
   match l,hne with
   | x::l',_=>
    have hx:=Nat.blt_eq.mp (hlt x aA);have:=Y x.1 hx;have X:(x::l').any (λy=>Nat.beq y.1 x.1)=true:=zy.2 ⟨x,by simp,by simp⟩;rw[X]at this;have:=(An hD x.1).2 this;rw[hnil]at this;simp at this
  .obtain⟨r,B⟩:=Z j hj;have A:=E0 h (j,r) B;simp only at A;split at A
   case h_2=>exact A.elim
   rename_i o ho;have hi:j<ops.size:=(jT.1 ho).1;rw[WJ]at A;obtain⟨s,A⟩:=A;unfold wpOp;simp only[ho];cases hg:uD ops o ρ
   .rw[hg]at A;simp only[cond_false]at A;rw[WJ]at A;obtain⟨Q,A⟩:=A;rw[zC (ZL hf Q)];refine .inl (Kw.upon (U6 hf.ev o A) λv w' F H=>?_);obtain⟨p,H⟩:=Le hsm H;exact⟨p.ts (hD.cons hi),Qy hsel hsm n m H (hf.put s v) (hD.cons hi) p λρ' a' J d M E g=>hK ρ' a' J d (F.trans M) (xX (ds:=[]) ho E) g⟩
   .rw[hg]at A;simp only[cond_true]at A;rw[Vv hf hg];simp only[za,jV];obtain⟨p,H⟩:=Le hsm A;exact⟨p.ts (hD.cons hi),Qy hsel hsm n m H (hf.put s undef) (hD.cons hi) p λρ' a' J d M E g=>hK ρ' a' J d M (xX (ds:=[]) ho E) g⟩
def Ac (P:Program)(N:Nat)(sm:Bool)(C:List Nat)(sh:SH)(ops:Array Oper)(ρ:Env)(h:Hp)(K:Env->Hp->Prop):Prop:=
 match sm with
 | true=>dT h λS=>UR P N ops true C S K 400 ops.size sh [] ρ h
 | false=>UR P N ops false C (λ_=>True) K 400 ops.size sh [] ρ h
theorem UT {P:Program}{N id:Nat}{ops:Array Oper}{sm:Bool}{C:List Nat}{sh:SH}{K:Env->Hp->Prop}{ρ:Env}{a:Act}{w:World}{Q:Exit->Act->World->Prop}
 (hm:P.follows .mixedOrders=true) (hsel:Region.noSelect ops=true) (h:Ac P N sm C sh ops ρ w.heap K)
 (hf:Fits N ρ a) (hK:∀ρ' a' w',Fits N ρ' a'->Xx w w'->Ug ops.toList ρ ρ'->K ρ' w'.heap->Q .normal a' w'):(Code.region id ops true).wp P Q a w:=by
 refine wp_mono (Q:=λe a w=>match e with | .normal=>Q .normal a w|_=>False) ?_ (λe a w j=>by cases e<;>first|exact j|exact j.elim)
 have hd:Xx w {w with drawn:=w.drawn+1}:=⟨rfl,rfl,rfl,zD _⟩;cases sm
 .exact Hq (S:=λw=>True) hm (Qy (S:=λ_=>True) (w:={w with drawn:=w.drawn+1}) (Qn:=Q .normal) hsel (λ_ _=>trivial) 400 ops.size h hf (iq.start ops) (.inl trivial) λρ' a' w' b d i g=>hK ρ' a' w' b (hd.trans d) i g)
 .obtain⟨S,m,h⟩:=h;exact Hq hm (Qy (S:=S) (w:={w with drawn:=w.drawn+1}) (Qn:=Q .normal) hsel (λe=>by cases e) 400 ops.size h hf (iq.start ops) (.inl m) λρ' a' w' b d i g=>hK ρ' a' w' b (hd.trans d) i g)
abbrev Js:=List (Nat×SK)
def mE (js:Js):List CK:=fA (js.map (·.2))
def u9 (ρ:Env):Js->Option (List Value)
 | []=>some []
 | (i,.one _)::js=>match ρ i,u9 ρ js with|some v,some vs=>some (v::vs)|_,_=>none
 | (i,.agg cs)::js=>match ρ i,u9 ρ js with
  | some (.agg a),some vs=>bif a.size==cs.length then some (a.toList++vs)else none
  | _,_=>none
def sH (js:Js)(ρ:Env)(J:eR (mE js))(h:Hp):Prop:=match u9 ρ js with
 | some vs=>tJ (mE js) J vs h
 | none=>False
def iD:Env->Js->List Value->Env
 | ρ,[],_=>ρ
 | ρ,(i,.one _)::js,v::vs=>iD (ρ.put i v) js vs
 | ρ,(i,.one _)::js,[]=>iD ρ js []
 | ρ,(i,.agg cs)::js,vs=>iD (ρ.put i (.agg (vs.take cs.length).toArray)) js (vs.drop cs.length)
def Jn (ks:List CK)(K:eR ks)(body:eR ks->Prop):Prop:=∃J:eR ks,eR.le ks J K/\body J
theorem eR.le_refl:∀(ks:List CK) (R:eR ks),eR.le ks R R
 | [],_=>λ_ h=>h
 | _::cs,_=>λ_=>eR.le_refl cs _
theorem Jn.intro {ks:List CK}{K:eR ks}{body:eR ks->Prop}(h:body K):Jn ks K body:=⟨K,eR.le_refl ks K,h⟩
def m5 (ds:List Nat)(i:Nat):Bool:=ds.contains i
def VA (ds:List Nat)(ρ ρ':Env):Prop:=∀i,ds.contains i=false->∀v,ρ i=some v->ρ' i=some v
theorem VA.trans {d1 d2:List Nat}{a b c:Env}(h:VA d1 a b)(k:VA d2 b c):VA (d1++d2) a c:=by
 intro i hi v hv;simp only[s7,zJ,decide_eq_false_iff_not,not_or]at hi;exact k i (by simpa using hi.2) v (h i (by simpa using hi.1) v hv)
theorem VA.mono {d1 d2:List Nat}{a b:Env}(h:VA d1 a b)(hs:∀i,i∈d1->i∈d2):VA d2 a b:=by
 intro i hi v hv;refine h i ?_ v hv;simp only[s7,decide_eq_false_iff_not]at hi ⊢;exact λd=>hi (hs i d)
theorem VA.refl (ds:List Nat)(a:Env):VA ds a a:=λ_ _ _ h=>h
theorem Vg (ds:List Nat):∀(js:Js) (ρ:Env) (vs:List Value),(js.all λs=>m5 ds s.1)=true->VA ds ρ (iD ρ js vs)
 | [],ρ,vs,_=>by simp only[iD];exact .refl _ _
 | (i,.one c)::js,ρ,[],h=>by
  simp only[vp,zF]at h;simp only[iD];exact Vg ds js ρ [] h.2
 | (i,.one c)::js,ρ,v::vs,h=>by
  simp only[vp,zF]at h;simp only[iD];intro j hj u hu;refine Vg ds js _ vs h.2 j hj u ?_;simp only[Env.put];cases hb:Nat.beq j i
  .exact hu
  .have e:j=i:=kf hb;subst e;simp only[m5]at h;rw[hj]at h;cases h.1
 | (i,.agg cs)::js,ρ,vs,h=>by
  simp only[vp,zF]at h;simp only[iD];intro j hj u hu;refine Vg ds js _ _ h.2 j hj u ?_;simp only[Env.put];cases hb:Nat.beq j i
  .exact hu
  .have e:j=i:=kf hb;subst e;simp only[m5]at h;rw[hj]at h;cases h.1
theorem KW {N:Nat}:∀(js:Js) {ρ ρ':Env} {a:Act} {vs:List Value},Fits N ρ a->Fits N ρ' a->u9 ρ' js=some vs->Fits N (iD ρ js vs) a
 | [],ρ,ρ',a,vs,h,_,_=>h
 | (i,.one c)::js,ρ,ρ',a,vs,h,h',hv=>by
  simp only[u9]at hv;split at hv
  .rename_i v vs' h1 h2;cases hv;simp only[iD];refine KW js ⟨h.defers,h.size,λj u hu=>?_⟩ h' h2;simp only[Env.put]at hu;cases hb:Nat.beq j i
   .rw[hb]at hu;exact h.at_ j u hu
   .have e:j=i:=kf hb;subst e;rw[hb]at hu;simp only[cond_true,Option.some.injEq]at hu;subst hu;exact h'.at_ j _ h1
  .cases hv
 | (i,.agg cs)::js,ρ,ρ',a,vs,h,h',hv=>by
  simp only[u9]at hv;split at hv
  .rename_i ar vs' h1 h2;cases hs:(ar.size==cs.length)
   .rw[hs]at hv;cases hv
   .rw[hs]at hv;simp only[cond_true,Option.some.injEq]at hv;subst hv;have b:ar.toList.length=cs.length:=by simpa using hs
    simp only[iD];rw[←b,List.take_left,List.drop_left];refine KW js ⟨h.defers,h.size,λj u hu=>?_⟩ h' h2;simp only[Env.put]at hu;cases hb:Nat.beq j i
    .rw[hb]at hu;exact h.at_ j u hu
    .have e:j=i:=kf hb;subst e;rw[hb]at hu;simp only[cond_true,Option.some.injEq]at hu;subst hu;simpa using h'.at_ j _ h1
  .cases hv
theorem Hy {js:Js}{ρ:Env}{J:eR (mE js)}{h:Hp}(hj:sH js ρ J h):∃vs,u9 ρ js=some vs/\Sat (mE js) J vs h:=by
 unfold sH at hj;split at hj
 .exact⟨_,by assumption,Hs hj⟩
 .exact hj.elim
theorem Uh {N:Nat}{ds:List Nat}{ρ ρ':Env}{a:Act}(h:Fits N ρ' a)(k:VA ds ρ ρ'):Fits N (ρ.eC ds) a:=by
 refine h.weaken λi v b=>?_;simp only[Env.eC]at b;cases hc:ds.contains i
 .rw[hc]at b;exact k i hc v b
 .rw[hc]at b;cases b
theorem Hb (ds:List Nat)(ρ:Env):VA ds ρ (ρ.eC ds):=by
 intro i hi v hv;simp only[Env.eC,hi];exact hv
def Bd:Op->Bool
 | .pick .. => true
 | _=>false
def kL (os:List Oper):Bool:=os.all λo=>uz o.op||Bd o.op
theorem Ul {P:Program}{N:Nat}{ops:Array Oper}{Q:Act->Prop}{w:World}:∀(n:Nat) {hs:List RI} {os:List Oper} {tail:List Oper} {ρ:Env} {a:Act} {K:Env->Hp->Prop},
 eJ P N ops n hs os ρ w.heap K->kL os=true->Fits N ρ a->(∀ρ' a',Fits N ρ' a'->Ug os ρ ρ'->K ρ' w.heap->wpStill P ops w Q tail a')->wpStill P ops w Q (os++tail) a
 | 0,_,_,_,_,_,_,h,_,_,_=>(by simp only[eJ]at h)
 | n+1,[],[],tail,ρ,a,K,h,hq,hf,hK=>by
  simp only[eJ]at h;exact hK ρ a hf (λ_ _ _ h=>h) h
 | n+1,[],o::os,tail,ρ,a,K,h,hq,hf,hK=>(by simp only[eJ]at h)
 | n+1,.op::hs,[],tail,ρ,a,K,h,hq,hf,hK=>(by simp only[eJ]at h)
 | n+1,.it ki c::hs,[],tail,ρ,a,K,h,hq,hf,hK=>(by simp only[eJ]at h)
 | n+1,.it ki c::hs,o::os,tail,ρ,a,K,h,hq,hf,hK=>by
  simp only[eJ]at h;rw[WJ]at h;simp only[kL,vp,zF,nS]at hq;have h2:=h.2;unfold AZ at h2;split at h2
  .rename_i heq;rw[heq]at hq;simp[uz,Bd]at hq
  .rename_i heq;rw[heq]at hq;simp[uz,Bd]at hq
  .exact h2.elim
 | n+1,.op::hs,o::os,tail,ρ,a,K,h,hq,hf,hK=>by
  simp only[eJ]at h;rw[WJ]at h;obtain⟨C,h⟩:=h;simp only[zF]at C;have Y:=ZL hf C.1;simp only[kL,vp,zF,nS]at hq;have R:uz o.op=true:=by
   rcases hq.1 with h1|h1
   .exact h1
   .unfold Bd at h1;split at h1
    .rename_i heq;rw[heq];rfl
    .cases h1
  unfold sW at h;rw[R]at h;obtain⟨v,hr,A⟩:=Aj hf.ev o h;simp only[lN,wpStill,Y,zT,Oper.still,hr,Oper.stillUpon];exact⟨trivial,Ul n A (by simpa[kL]using hq.2) (hf.put C.2 v) λρ' a' g G B=>hK ρ' a' g G.cons B⟩
 | n+1,.cZ and m inner::hs,os,tail,ρ,a,K,h,hq,hf,hK=>by
  simp only[eJ]at h;split at h
  case h_2=>exact h.elim
  rename_i pk rest hdrop;split at h
  case h_2=>exact h.elim
  rename_i c x y d hop hd;split at h
  case h_2=>exact h.elim
  rename_i b hb;rw[WJ]at h;obtain⟨C,J,hJ,h⟩:=h;simp only[zF]at C;obtain⟨Z,H,M,ab,s⟩:=C;have hos:os++tail=os.take m++(pk::rest++tail):=by
   rw[←hdrop,←zl,oQ]
  have X:kL (os.take m)=true:=by
   rw[kL,kF]at hq ⊢;exact λo U=>hq o (vu U)
  have hqr:kL rest=true:=by
   rw[kL,kF]at hq ⊢;exact λo U=>hq o (ur (i:=m) (by rw[hdrop];exact l7 _ U))
  rw[hos];have j:∀(r b':Bool) (z:Operand) a',b=b'->(bif b' then x else y)=z->Fits N (ρ.eC ((os.take m).filterMap (·.dst))) a'->J r w.heap->Region.wanted pk (yielded ops a'.tmps)=true →
   a'.eval (.tmp c)=.bool b'->a'.eval z=.bool r->wpStill P ops w Q (pk::rest++tail) a':=by
   intro r b' z a' e ez g F Y u hez;have L:(execOp a'.eval pk).run P w=.ok (.value (.bool r)) w:=by
    obtain⟨dst,op,ty,pos,aft,V⟩:=pk;simp only at hop;subst hop;subst ez;cases b'<;>simp at hez<;>simp[execOp,u,asBool,hez]
   simp only[lN,wpStill,Y,zT,Oper.still,L,Oper.stillUpon];have aa:=g.put (d:=some d) Z (.bool r);rw[hd];exact⟨trivial,Ul n (hJ _ _ F) hqr aa λρ' W D G B=>hK ρ' W D (Ug.cZ hd hdrop G) B⟩
  have run:∀(b':Bool) (z:Operand),b=b'->(bif b' then x else y)=z →
   eJ P N ops n inner (os.take m) (ρ.put c (.bool b')) w.heap (λρ' h'=>fU (oF ops pk ρ'&&sR ρ' c b') (UO ρ' z λr=>J r h'))->wpStill P ops w Q (os.take m++(pk::rest++tail)) a:=by
   intro b' z e ez hseg;refine Ul n hseg X (hf.lit hb e) λρ' a' g G A=>?_;rw[WJ]at A;simp only[zF]at A;obtain⟨⟨hg,S⟩,A⟩:=A;obtain⟨r,hr,F⟩:=Vd A;exact j r b' z a' e ez (g.vA hb e G) F (ZL g hg) (g.ev _ _ (U5 S)) (g.ev _ _ hr)
  have p:∀(b':Bool),b=b'->b' = !and->J (!and) w.heap->wpStill P ops w Q (os.take m++(pk::rest++tail)) a:=by
   intro b' e eb F;subst eb;refine LP s (hf.lit hb e) λa' g=>?_;have E:Fits N (ρ.eC ((os.take m).filterMap (·.dst))) a':=g.vA (ρ':=(ρ.put c (.bool (!and))).eC ((os.take m).filterMap (·.dst))) hb e (λi hi v hv=>by simp only[Env.eC,hi];exact hv);have u:=g.ev (.tmp c) _ (U5 ab);refine j (!and) (!and) (bif (!and)then x else y) a' e rfl E F (ZL E M) u ?_;refine D0 ?_ _ (λv=>rfl);cases and<;>exact H
  cases and
  .simp only[cond_false]at h;cases b
   .exact run false y rfl rfl (h.f rfl)
   .exact p true rfl rfl (h.t rfl)
  .simp only[cond_true]at h;cases b
   .exact p false rfl rfl (h.f rfl)
   .exact run true x rfl rfl (h.t rfl)
inductive RH where
 | seq (hs:List RI)
 | quiet (hs:List RI)
 | tail (n:Nat) (hs1 hs2:List RI)
 | held (sm:Bool) (C:List Nat) (sh:SH)
 | gM (sm:Bool) (C:List Nat) (js:Js) (sh:SH)
def vT (ops:Array Oper):List Nat:=ops.toList.filterMap (·.dst)
def mQ (P:Program)(N:Nat)(r:RH)(ops:Array Oper)(draw:Bool)(ρ:Env)(h:Hp)(K:Env->Hp->Prop):Prop:=
 match r,draw with
 | .seq hs,false=>eJ P N ops 400 hs ops.toList ρ h K
 | .quiet hs,true=>fU (P.follows .mixedOrders&&(Region.lexB .any ops&&kL ops.toList)) (eJ P N ops 400 hs ops.toList ρ h K)
 | .tail n hs1 hs2,true=>fU (P.follows .mixedOrders&&(Region.lexTailB .any ops n&&kL (ops.toList.take n)))
  (eJ P N ops 400 hs1 (ops.toList.take n) ρ h λρ' h'=>eJ P N ops 400 hs2 (ops.toList.drop n) ρ' h' K)
 | .held sm C sh,true=>fU (P.follows .mixedOrders&&Region.noSelect ops) (Ac P N sm C sh ops ρ h K)
 | .gM sm C js sh,true=>fU (P.follows .mixedOrders&&(Region.noSelect ops&&js.all λs=>m5 (vT ops) s.1))
  (Jn (mE js) (lam (mE js) λvs h'=>K (iD (ρ.eC (vT ops)) js vs) h') λJ=>Ac P N sm C sh ops ρ h λρ' h'=>sH js ρ' J h')
 | _,_=>False
theorem LZ {P:Program}{N id:Nat}{r:RH}{ops:Array Oper}{draw:Bool}{ρ:Env}{a:Act}{w:World}{K:Env->Hp->Prop}{Q:Exit->Act->World->Prop}
 (h:mQ P N r ops draw ρ w.heap K) (hf:Fits N ρ a) (hK:∀ρ' a' w',Fits N ρ' a'->Xx w w'->Ug ops.toList ρ ρ'->K ρ' w'.heap->Q .normal a' w'):(Code.region id ops draw).wp P Q a w:=by
 unfold mQ at h;split at h
 .rename_i C;refine wp_region_list ?_;have:=Ve (Q:=Q) (tail:=[]) 400 h hf λρ' a' w' d p g j=>hK ρ' a' w' d p g j;simpa using this
 .rename_i C;rw[WJ]at h;simp only[zF]at h;obtain⟨⟨u,D,A⟩,h⟩:=h;refine wp_region_still u D ?_;have:=Ul (w:={w with drawn:=w.drawn+1}) (Q:=λa'=>Q .normal a' {w with drawn:=w.drawn+1}) (tail:=[]) 400 h A hf λρ' a' d g j=>hK ρ' a' _ d ⟨rfl,rfl,rfl,zD _⟩ g j;simpa using this
 .rename_i n hs1 hs2;rw[WJ]at h;simp only[zF]at h;obtain⟨⟨u,D,A⟩,h⟩:=h;obtain⟨l,rfl⟩:∃l:List Oper,ops=l.toArray:=⟨ops.toList,by simp⟩;refine wp_region_still_tail n u D ?_;have:=Ul (w:={w with drawn:=w.drawn+1}) (ops:=l.toArray) (Q:=λa'=>wpList P l.toArray Q (l.drop n) a' {w with drawn:=w.drawn+1}) (tail:=[]) 400 h (by simpa using A) hf (λρ' a' d g j=>by
   have:=Ve (Q:=Q) (tail:=[]) (w:={w with drawn:=w.drawn+1}) 400 j d λB E G m p y H=>hK B E G m (Xx.trans (b:={w with drawn:=w.drawn+1}) ⟨rfl,rfl,rfl,zD _⟩ p) (λi hi v z=>?_) H
   .simpa[wpStill]using this
   .rw[show l.toArray.toList=l.take n++l.drop n by simp,xD]at hi;simp only[s7,zJ,decide_eq_false_iff_not,not_or]at hi;exact y i (by simpa using hi.2) v (g i (by simpa using hi.1) v z))
  simpa using this
 .rename_i sm sh;rw[WJ]at h;simp only[zF]at h;exact UT h.1.1 h.1.2 h.2 hf hK
 .rename_i sm js sh;rw[WJ]at h;simp only[zF]at h;obtain⟨⟨u,s,x⟩,J,L,h⟩:=h;refine UT u s h hf λρ' a' w' d p g j=>?_;obtain⟨vs,z,C⟩:=Hy j;have F:=UB (C.mono L);refine hK _ a' w' (KW js (Uh d g) d z) p ?_ F;exact((Hb (vT ops) ρ).trans (Vg (vT ops) js (ρ.eC (vT ops)) vs x)).mono λi hi=>by
   simp only[zJ]at hi;rcases hi with h|h<;>exact h
 .exact h.elim
def fQ:Code->List Nat
 | .region _ ops _=>vT ops
 | .seq a b=>fQ a++fQ b
 | .cond _ a b=>fQ a++fQ b
 | .block _ b=>fQ b
 | .loop b=>fQ b
 | .scope b=>fQ b
 | _=>[]
def G9:(ks:List CK)->eR ks->qj ks->(Nat->Prop)->eR ks
 | [],I,μ,p=>λh=>I h/\p (μ h)
 | c::cs,I,μ,p=>λx=>G9 cs (I x) (μ x) p
def X9 (ks:List CK)(start:eR ks->Prop)(round:eR ks->eR ks):Prop:=
 ∃(I:eR ks) (μ:qj ks),start I/\∀m:Nat,eR.le ks (G9 ks I μ (· = m)) (round (G9 ks I μ (· < m)))
inductive Hn where
 | leaf
 | cU (r:RH)
 | seq (a b:Hn)
 | kx (js:Js) (a b:Hn)
 | cond (a b:Hn)
 | block (b:Hn)
 | loop (js:Js) (b:Hn)
 | scope (b:Hn)
def RI.ops:Nat->List RI
 | 0=>[]
 | n+1=>.op::RI.ops n
abbrev Hn.l:Hn:=.leaf
abbrev Hn.q (a b:Hn):Hn:=.seq a b
abbrev Hn.c (a b:Hn):Hn:=.cond a b
abbrev Hn.k (a:Hn):Hn:=.block a
def Hn.o (n:Nat):Hn:=.cU (.seq (RI.ops n))
abbrev Hn.o1:Hn:=.o 1
abbrev Hn.o2:Hn:=.o 2
abbrev Hn.aJ:Hn:=.c (.q .o2 .l) .l
abbrev Hn.aK:Hn:=.c (.q .o1 .l) .l
abbrev Hn.aL:Hn:=.q .o2 .l
abbrev Hn.aM:Hn:=.q .o1 .l
abbrev Hn.o3:Hn:=.o 3
abbrev Hn.o4:Hn:=.o 4
abbrev Hn.o5:Hn:=.o 5
abbrev Hn.o6:Hn:=.o 6
abbrev Hn.o7:Hn:=.o 7
abbrev Hn.o8:Hn:=.o 8
abbrev Hn.o9:Hn:=.o 9
abbrev Hn.gE:Hn:=.o 10
def Hn.oq (n:Nat):Hn:=.cU (.quiet (RI.ops n))
def vP (next:Env->Hp->Prop)(Q:Exit->Env->Hp->Prop):Exit->Env->Hp->Prop
 | .normal,ρ,h=>next ρ h
 | e,ρ,h=>Q e ρ h
def xf (id:Nat)(Q:Exit->Env->Hp->Prop):Exit->Env->Hp->Prop
 | .exit i,ρ,h=>match Nat.beq i id with
  | true=>Q .normal ρ h
  | false=>Q (.exit i) ρ h
 | e,ρ,h=>Q e ρ h
def N7 (Q:Exit->Env->Hp->Prop):Exit->Env->Hp->Prop
 | .goto _,_,_=>False
 | e,ρ,h=>Q e ρ h
def iM (P:Program)(N:Nat):Code->Hn->(Exit->Env->Hp->Prop)->Env->Hp->Prop
 | .skip,_,Q,ρ,h=>Q .normal ρ h
 | .ret,_,Q,ρ,h=>Q .ret ρ h
 | .exit id,_,Q,ρ,h=>Q (.exit id) ρ h
 | .region _ ops d,.cU r,Q,ρ,h=>mQ P N r ops d ρ h λρ' h'=>Q .normal ρ' h'
 | .seq a b,.seq x y,Q,ρ,h=>iM P N a x (vP (λρ' h'=>iM P N b y Q ρ' h') Q) ρ h
 | .seq a b,.kx js x y,Q,ρ,h=>fU (js.all λs=>m5 (fQ a) s.1)
  (Jn (mE js) (lam (mE js) λvs h'=>iM P N b y Q (iD (ρ.eC (fQ a)) js vs) h') λJ=>iM P N a x (vP (λρ' h'=>sH js ρ' J h') Q) ρ h)
 | .cond c a b,.cond x y,Q,ρ,h=>UO ρ c λt=>If t (iM P N a x Q ρ h) (iM P N b y Q ρ h)
 | .block id b,.block x,Q,ρ,h=>iM P N b x (xf id Q) ρ h
 | .scope b,.scope x,Q,ρ,h=>iM P N b x (N7 Q) ρ h
 | .label _,_,Q,ρ,h=>Q .normal ρ h
 | .loop b,.loop js x,Q,ρ,h=>fU (js.all λs=>m5 (fQ b) s.1)
  (X9 (mE js) (λI=>sH js ρ I h) λJ=>lam (mE js) λvs h'=>iM P N b x (vP (λρ' h''=>sH js ρ' J h'') Q) (iD (ρ.eC (fQ b)) js vs) h')
 | _,_,_,_,_=>False
theorem Gz:∀{ks:List CK} {I:eR ks} {μ:qj ks} {p:Nat->Prop} {vs:List Value} {h:Hp},Sat ks (G9 ks I μ p) vs h->∃n,p n/\Sat ks (G9 ks I μ (· = n)) vs h
 | [],I,μ,p,[],h,hs=>⟨μ h,hs.2,hs.1,rfl⟩
 | c::cs,I,μ,p,v::vs,h,⟨x,e,hs⟩=>by
  obtain⟨n,hp,hn⟩:=Gz (I:=I x) (μ:=μ x) hs;exact⟨n,hp,x,e,hn⟩
 | [],I,μ,p,_::_,h,hs=>hs.elim
 | _::_,I,μ,p,[],h,hs=>hs.elim
theorem Hv:∀{ks:List CK} {I:eR ks} (μ:qj ks) {vs:List Value} {h:Hp},Sat ks I vs h->∃n,Sat ks (G9 ks I μ (· = n)) vs h
 | [],I,μ,[],h,hs=>⟨μ h,hs,rfl⟩
 | c::cs,I,μ,v::vs,h,⟨x,e,hs⟩=>by
  obtain⟨n,hn⟩:=Hv (I:=I x) (μ x) hs;exact⟨n,x,e,hn⟩
 | [],I,μ,_::_,h,hs=>hs.elim
 | _::_,I,μ,[],h,hs=>hs.elim
theorem Ca {p:Nat->Prop}(h:∃n,p n):∃n,p n/\∀m,p m->n<=m:=by
 obtain⟨n,d⟩:=h
 induction n using Nat.strongRecOn with
 | _ n ih=>
  by_cases hm:∃m,m<n/\p m
  .obtain⟨m,a,b⟩:=hm;exact ih m a b
  .exact⟨n,d,λm b=>Nat.le_of_not_lt λa=>hm ⟨m,a,b⟩⟩
open Classical in
noncomputable def wx (p:Nat->Prop):Nat:=if h:∃n,p n then(Ca h).choose else 0
theorem Jf {p:Nat->Prop}(h:∃n,p n):p (wx p):=by
 unfold wx;rw[dif_pos h];exact(Ca h).choose_spec.1
theorem FE {p:Nat->Prop}{n:Nat}(h:p n):wx p<=n:=by
 unfold wx;rw[dif_pos ⟨n,h⟩];exact(Ca ⟨n,h⟩).choose_spec.2 n h
theorem MG {P:Program}{c:Code}{Q:Exit->Act->World->Prop}{a:Act}{w:World}(I:Nat->Act->World->Prop)(h0:∃n,I n a w)
 (round:∀n a w,I n a w->c.wp P (Exit.then (λa' w'=>∃m,m<n/\I m a' w') Q) a w):(Code.loop c).wp P Q a w:=by
 refine wp_loop (λa w=>∃n,I n a w) (λa w=>wx λn=>I n a w) h0 λa w g=>?_;refine wp_mono (round _ a w (Jf g)) λe a' w' d=>?_;cases e<;>try exact d
 obtain⟨m,i,b⟩:=d;exact⟨⟨m,b⟩,Dh (FE b) i⟩
theorem Q6 {P:Program}{N:Nat}:∀(c:Code) {x:Hn} {Q:Exit->Env->Hp->Prop} {Q':Exit->Act->World->Prop} {ρ:Env} {a:Act} {w:World},
 iM P N c x Q ρ w.heap->Fits N ρ a->(∀e ρ' a' w',Fits N ρ' a'->Xx w w'->VA (fQ c) ρ ρ'->Q e ρ' w'.heap->Q' e a' w')->c.wp P Q' a w
 | .skip,x,Q,Q',ρ,a,w,h,hf,hq=>by
  have h':Q .normal ρ w.heap:=by cases x<;>exact h
  exact wp_skip (hq _ ρ a w hf (.refl _) (.refl _ _) h')
 | .ret,x,Q,Q',ρ,a,w,h,hf,hq=>by
  have h':Q .ret ρ w.heap:=by cases x<;>exact h
  exact wp_ret (hq _ ρ a w hf (.refl _) (.refl _ _) h')
 | .exit id,x,Q,Q',ρ,a,w,h,hf,hq=>by
  have h':Q (.exit id) ρ w.heap:=by cases x<;>exact h
  exact wp_exit (hq _ ρ a w hf (.refl _) (.refl _ _) h')
 | .region id ops d,x,Q,Q',ρ,a,w,h,hf,hq=>by
  cases x<;>simp only[iM]at h
  exact LZ h hf λρ' a' w' b p r j=>hq _ ρ' a' w' b p r j
 | .seq c1 c2,x,Q,Q',ρ,a,w,h,hf,hq=>by
  cases x<;>simp only[iM]at h
  case seq x y=>
   refine wp_seq (Q6 c1 h hf λe ρ' a' w' b p r j=>?_);cases e
   case normal=>exact Q6 c2 j b λe ρ'' u z g s B C=>hq e ρ'' u z g (p.trans s) (r.trans B) C
   all_goals exact hq _ ρ' a' w' b p (r.mono λi hi=>kN _ hi) j
  case kx js x y=>
   rw[WJ]at h;obtain⟨D,J,Y,h⟩:=h;refine wp_seq (Q6 c1 h hf λe ρ' a' w' b p r j=>?_);cases e
   case normal=>
    obtain⟨vs,H,F⟩:=Hy j;have E:=UB (F.mono Y);have S:=KW js (Uh b r) b H;refine Q6 c2 E S λe ρ'' u z g s B C=>hq e ρ'' u z g (p.trans s) ?_ C;have U:=(Hb (fQ c1) ρ).trans (Vg (fQ c1) js (ρ.eC (fQ c1)) vs D);exact(U.trans B).mono λi hi=>by
     simp only[fQ,zJ]at hi ⊢;rcases hi with(h|h)|h
     .exact Or.inl h
     .exact Or.inl h
     .exact Or.inr h
   all_goals exact hq _ ρ' a' w' b p (r.mono λi hi=>kN _ hi) j
 | .cond c c1 c2,x,Q,Q',ρ,a,w,h,hf,hq=>by
  cases x<;>simp only[iM]at h
  obtain⟨t,V,h⟩:=Vd h;refine wp_cond_split (hf.ev _ _ V) (λe=>?_) (λe=>?_)
  .exact Q6 c1 (h.t e) hf λe ρ' a' w' b p r j=>hq e ρ' a' w' b p (r.mono λi hi=>kN _ hi) j
  .exact Q6 c2 (h.f e) hf λe ρ' a' w' b p r j=>hq e ρ' a' w' b p (r.mono λi hi=>oP _ hi) j
 | .block id c1,x,Q,Q',ρ,a,w,h,hf,hq=>by
  cases x<;>simp only[iM]at h
  refine wp_block (Q6 c1 h hf λe ρ' a' w' b p r j=>?_);cases e
  case exit i=>
   simp only[xf]at j;simp only[Exit.inBlock];split at j
   .rename_i e;have M:i=id:=kf e;rw[zC M];exact hq _ ρ' a' w' b p r j
   .rename_i e;have M:i≠id:=λh=>by subst h;simp at e
    rw[zB M];exact hq _ ρ' a' w' b p r j
  all_goals exact hq _ ρ' a' w' b p r j
 | .loop c1,x,Q,Q',ρ,a,w,h,hf,hq=>by
  cases x<;>simp only[iM]at h
  rename_i js x;rw[WJ]at h;obtain⟨D,I,μ,F,X⟩:=h;refine MG (λn a' w'=>∃vs,Fits N (iD (ρ.eC (fQ c1)) js vs) a'/\Xx w w'/\Sat (mE js) (G9 (mE js) I μ (· = n)) vs w'.heap) ?_ ?_
  .obtain⟨vs,H,F⟩:=Hy F;obtain⟨n,R⟩:=Hv μ F;exact⟨n,vs,KW js (hf.weaken (yA _ _)) hf H,.refl _,R⟩
  .rintro n a' w' ⟨vs,b,p,R⟩;have:=UB (R.mono (X n));have W:=(Hb (fQ c1) ρ).trans (Vg (fQ c1) js (ρ.eC (fQ c1)) vs D);refine Q6 c1 this b λe ρ'' u z g s r j=>?_;have A:VA (fQ c1) ρ ρ'':=(W.trans r).mono λi hi=>by
    simp only[zJ]at hi;rcases hi with(h|h)|h<;>exact h
   cases e
   case normal=>
    obtain⟨K,L,E⟩:=Hy j;obtain⟨m,Z,G⟩:=Gz E;exact⟨m,Z,K,KW js (Uh g A) g L,p.trans s,G⟩
   all_goals exact hq _ ρ'' u z g (p.trans s) A j
 | .scope c1,x,Q,Q',ρ,a,w,h,hf,hq=>by
  cases x<;>simp only[iM]at h
  refine wp_scope_straight (Q6 c1 h hf λe ρ' a' w' b p r j=>?_);cases e
  case goto l=>exact j.elim
  all_goals exact hq _ ρ' a' w' b p r j
 | .label l,x,Q,Q',ρ,a,w,h,hf,hq=>by
  have h':Q .normal ρ w.heap:=by cases x<;>exact h
  exact wp_label (hq _ ρ a w hf (.refl _) (.refl _ _) h')
 | .rangeFunc ..,x,Q,Q',ρ,a,w,h,hf,hq=>(by cases x<;>simp only[iM]at h)
 | .goto ..,x,Q,Q',ρ,a,w,h,hf,hq=>(by cases x<;>simp only[iM]at h)
 | .refuse ..,x,Q,Q',ρ,a,w,h,hf,hq=>(by cases x<;>simp only[iM]at h)
def pO (P:Program)(r:ResultVar)(s:SK)(ρ:Env)(h:Hp)(K:List Value->Prop):Prop:=
 match r,s with
 | .tmp t,.one _=>wv (ρ t) λv=>K [v]
 | .tmp t,.agg cs=>wv (ρ t) λv=>match v with
  | .agg a=>fU (a.size==cs.length) (K a.toList)
  | _=>False
 | .cell a t,.one c=>wv (ρ a) λv=>match v,j0 P t with
  | .pointer (some ad),some (.one _)=>Ag c ad h λx=>K [c.v x]
  | _,_=>False
 | .cell a t,.agg cs=>wv (ρ a) λv=>match v,j0 P t with
  | .pointer (some ad),some (.agg _)=>fU (P.cellsOf t==cs.length&&(P.info? t).isSome) (nZ cs ad 0 h λvs=>K vs)
  | _,_=>False
def mj (P:Program):List ResultVar->List SK->Env->Hp->(List Value->Prop)->Prop
 | [],[],_,_,K=>K []
 | r::rs,s::ss,ρ,h,K=>pO P r s ρ h λvs=>mj P rs ss ρ h λus=>K (vs++us)
 | _,_,_,_,_=>False
def pj (P:Program)(fn:Func)(rs:List SK)(R:eR (fA rs)):Exit->Env->Hp->Prop
 | .normal,ρ,h=>mj P fn.results.toList rs ρ h λvs=>tJ (fA rs) R vs h
 | .ret,ρ,h=>mj P fn.results.toList rs ρ h λvs=>tJ (fA rs) R vs h
 | _,_,_=>False
def tN (vs:List Value):Env:=λi=>vs[i]?
def Lq (P:Program)(fn:Func)(x:Hn)(args:List Value)(rs:List SK)(R:eR (fA rs))(h:Hp):Prop:=
 match fn.body with
 | some c=>fU (Nat.ble args.length fn.ntmps) (iM P fn.ntmps c x (pj P fn rs R) (tN args) h)
 | none=>False
def Hx:SK->List Value->Value
 | .one _,[v]=>v
 | .one _,_=>undef
 | .agg _,vs=>.agg vs.toArray
def uX (tmps:Array Value):ResultVar->Sem Value
 | .tmp t=>pure (tmps.getD t undef)
 | .cell b t=>do loadVar t (←asAddr (tmps.getD b undef))
theorem Ov (fn:Func)(tmps:Array Value):results fn tmps=(do
 let vs ←fn.results.mapM (uX tmps)
 pure (if h:vs.size=1 then vs[0]else .tuple vs)):=by
 unfold results
 congr 1
theorem Rb {P:Program}{r:ResultVar}{s:SK}{ρ:Env}{K:List Value->Prop}{a:Act}{N:Nat}{w:World}(hf:Fits N ρ a)(h:pO P r s ρ w.heap K) :
 ∃vs,vs.length=s.ks.length/\K vs/\(uX a.tmps r).run P w=.ok (Hx s vs) w:=by
 unfold pO at h;split at h
 .rename_i t c;obtain⟨v,i,g⟩:=WA h;refine⟨[v],rfl,g,?_⟩;simp[uX,sQ,hf.at_ _ _ i,Hx]
 .rename_i t cs;obtain⟨v,i,g⟩:=WA h;split at g
  .rename_i ar;rw[WJ]at g;refine⟨ar.toList,by simpa[SK.ks]using g.1,g.2,?_⟩;simp[uX,sQ,hf.at_ _ _ i,Hx]
  .exact g.elim
 .rename_i b t c;obtain⟨v,i,g⟩:=WA h;split at g
  .rename_i ad c' hs;obtain⟨d,hd,j⟩:=FO hs;obtain⟨x,y,g⟩:=BI g;refine⟨[c.v x],rfl,g,?_⟩;simp only[uX,sQ,hf.at_ _ _ i,qL,asAddr,Sem.run_bind,Sem.run_pure,Result.andThen_ok,loadVar,Vu hd,j,Hx];simpa using CD y
  .exact g.elim
 .rename_i b t cs;obtain⟨v,i,g⟩:=WA h;split at g
  .rename_i ad cs' hs;rw[WJ]at g;obtain⟨m,g⟩:=g;simp only[zF,zU]at m;obtain⟨d,hd,j⟩:=FY hs;obtain⟨vs,u,g,p⟩:=DS (P:=P) g;refine⟨vs,u,g,?_⟩;simp only[uX,sQ,hf.at_ _ _ i,qL,asAddr,Sem.run_bind,Sem.run_pure,Result.andThen_ok,loadVar,Vu hd,j,zT,Kt m.2,loadCells,m.1,p,Hx];simp
  .exact g.elim
theorem Im {P:Program}{ρ:Env}{a:Act}{N:Nat}{w:World}(hf:Fits N ρ a):∀{rv:List ResultVar} {rs:List SK} {K:List Value->Prop},mj P rv rs ρ w.heap K →
 ∃vs,K vs/\(rv.mapM (uX a.tmps)).run P w=.ok (qT rs vs) w
 | [],[],K,h=>⟨[],h,by simp[qT]⟩
 | r::rv,s::rs,K,h=>by
  obtain⟨v1,hl,hK,hr⟩:=Rb hf h;obtain⟨g,b,d⟩:=Im hf hK;refine⟨v1++g,b,?_⟩;simp only[List.mapM_cons,Sem.run_bind,hr,Result.andThen_ok,d,Sem.run_pure];cases s with
  | one c=>
   match v1,hl with
   | [v],_=>simp[qT,Hx]
  | agg cs=>
   simp only[SK.ks]at hl;simp only[qT,Hx,←hl,List.take_left,List.drop_left]
 | [],_::_,K,h=>h.elim
 | _::_,[],K,h=>h.elim
theorem VG {P:Program}{fn:Func}{ρ:Env}{a:Act}{N:Nat}{w:World}{rs:List SK}{K:List Value->Prop}(hf:Fits N ρ a)(h:mj P fn.results.toList rs ρ w.heap K) :
 ∃vs,K vs/\(results fn a.tmps).run P w=.ok (pack rs vs) w:=by
 obtain⟨vs,b,d⟩:=Im hf h;refine⟨vs,b,?_⟩;rw[Ov,Array.mapM_eq_mapM_toList];simp only[Sem.run_bind,Sem.run_map,d,Result.andThen_ok,Sem.run_pure,pack];split
 .rename_i h1
  match hp:qT rs vs,h1 with
  | [v],_=>simp
 .rename_i h1
  match hp:qT rs vs,h1 with
  | [],_=>rfl
  | [v],h1=>simp at h1
  | _::_::_,_=>rfl
theorem R0 {a b:Prop}(f:b)(e:a=b:=by kernel_rfl):a:=e.mpr f
theorem Wa {P:Program}{f:Nat}{fn:Func}{x:Hn}{args:List Value}{rs:List SK}{R:eR (fA rs)}{h:Hp}(hfn:P.funcs[f]?=some fn)(hk:Lq P fn x args rs R h):Wg P f args.toArray rs h R:=by
 intro w hw;subst hw;unfold Lq at hk;split at hk
 case h_2=>exact hk.elim
 rename_i c hb;rw[WJ]at hk;obtain⟨p,hk⟩:=hk;have s:args.length<=fn.ntmps:=AA p;refine calls_of_wp hfn hb ?_;refine Q6 c hk (ρ:=tN args) ⟨rfl,by simp;omega,λi v d=>?_⟩ λe u z A a r y g=>?_
 .simp only[tN]at d;have b:i<args.length:=(cY.1 d).1;rw[xq (by simpa using b)];simpa using d
 .cases e<;>simp only[pj]at g
  case normal=>
   obtain⟨vs,j,m⟩:=VG a g;exact⟨a.defers,_,m,r,vs,rfl,Hs j⟩
  case ret=>
   obtain⟨vs,j,m⟩:=VG a g;exact⟨a.defers,_,m,r,vs,rfl,Hs j⟩
theorem Fz {start:eR []->Prop}{round:eR []->eR []}(I:aP)(μ:Hp->Nat)(h0:start I)
 (hr:∀h,I h->round (λh'=>I h'/\μ h'<μ h) h):X9 [] start round:=
 ⟨I,μ,h0,λ_ h ⟨hi,a⟩=>a▸hr h hi⟩
theorem Qg {a:CK}{start:eR [a]->Prop}{round:eR [a]->eR [a]}(I:a.T->Hp->Prop)(μ:a.T->Hp->Nat)(h0:start I)
 (hr:∀x h,I x h->round (λx' h'=>I x' h'/\μ x' h'<μ x h) x h):X9 [a] start round:=
 ⟨I,μ,h0,λ_ x h ⟨hi,b⟩=>b▸hr x h hi⟩
theorem UJ {a bb:CK}{start:eR [a,bb]->Prop}{round:eR [a,bb]->eR [a,bb]}(I:a.T->bb.T->Hp->Prop)(μ:a.T->bb.T->Hp->Nat)(h0:start I)
 (hr:∀x y h,I x y h->round (λx' y' h'=>I x' y' h'/\μ x' y' h'<μ x y h) x y h):X9 [a,bb] start round:=
 ⟨I,μ,h0,λ_ x y h ⟨hi,b⟩=>b▸hr x y h hi⟩
theorem bL {a:Addr}{K:Addr->Prop}(h:K a):bW (some a) K:=⟨a,rfl,h⟩
theorem oI {k:IntKind}{a:Addr}{h:Hp}{n:Int}{K:Int->Prop}(hc:cell h a=some (.int k n))(hK:K n):gL k a h K:=⟨n,hc,hK⟩
theorem nJ {a:Addr}{h:Hp}{n:Bool}{K:Bool->Prop}(hc:cell h a=some (.bool n))(hK:K n):lZ a h K:=⟨n,hc,hK⟩
theorem vN {a:Addr}{h:Hp}{n:Option Addr}{K:Option Addr->Prop}(hc:cell h a=some (.pointer n))(hK:K n):fZ a h K:=⟨n,hc,hK⟩
theorem Fu {a:Addr}{h:Hp}{n:Option Nat}{K:Option Nat->Prop}(hc:cell h a=some (.map n))(hK:K n):lO a h K:=⟨n,hc,hK⟩
theorem oL {a:Addr}{h:Hp}{x:Option Addr}{n c:Nat}{K:Sl->Prop}(hc:cell h a=some (.slice x n c))(hK:K ⟨x,n,c⟩):jF a h K:=⟨⟨x,n,c⟩,hc,hK⟩
theorem UA {e:Int}(h1 : -9223372036854775808<=e)(h2:e<=9223372036854775807):IntKind.i64.wrap e=e:=by
 unfold IntKind.wrap;simp[IntKind.bits,IntKind.signed];omega
theorem ar {e:Int}{K:Int->Prop}(h1 : -9223372036854775808<=e)(h2:e<=9223372036854775807)(hK:K e):Ar .i64 e K:=by
 unfold Ar;rw[UA h1 h2];exact hK
theorem WkO (e:Int) : -9223372036854775808<=IntKind.i64.wrap e/\IntKind.i64.wrap e<=9223372036854775807:=by
 unfold IntKind.wrap;simp[IntKind.bits,IntKind.signed];omega
theorem nz {y:Int}{A:Prop}(h:y≠0)(hA:A):Nz y A:=⟨h,hA⟩
theorem nn {y:Int}{A:Prop}(h:0<=y)(hA:A):Nn y A:=⟨h,hA⟩
theorem ix {a:Addr}{n:Nat}{i:Int}{sz:Nat}{K:Addr->Prop}(h0:0<=i)(h1:i<(n:Int))(hK:K (a.add (i.toNat*sz))):Ix (some a) n i sz K:=⟨a,rfl,h0,h1,hK⟩
theorem cP {b:Bool}{A B:Prop}(h1:b=true->A)(h2:b=false->B):If b A B:=If.mk h1 h2
theorem cN {p:Prop}[Decidable p]{A B:Prop}(h1:p->A)(h2:¬p->B):If (decide p) A B:=
 If.mk (λh=>h1 (sG h)) (λh=>h2 (AV h))
theorem cF {b:Bool}{A B:Prop}(hb:b=true)(h:A):If b A B:=by subst hb;exact h
theorem cD {b:Bool}{A B:Prop}(hb:b=false)(h:B):If b A B:=by subst hb;exact h
theorem lV {p:Prop}[Decidable p]{A B:Prop}(hp:p)(h:A):If (decide p) A B:=cF (by simpa using hp) h
theorem gA {p:Prop}[Decidable p]{A B:Prop}(hp:¬p)(h:B):If (decide p) A B:=cD (by simpa using hp) h
theorem BR (a:Int)(n:Nat):a.fdiv (2^n)=a/2^n:=Int.fdiv_eq_ediv_of_nonneg _ (Int.le_of_lt (Int.pow_pos aB))
theorem YU {a b:Int}(h:0<=a):a.tdiv b=a/b:=Int.tdiv_eq_ediv_of_nonneg h
theorem Ki {a b:Int}(h:0<=a):a.tmod b=a%b:=Int.tmod_eq_emod_of_nonneg h
def bY (h:Hp)(b:Nat)(cs:List Value):Prop:=∃e,h[b]?=some (.cells cs.toArray e (0,0))
theorem bY.lt {h:Hp}{b:Nat}{cs:List Value}(hb:bY h b cs):b<h.size:=by
 obtain⟨e,a⟩:=hb;exact(jT.1 a).1
theorem bY.cell {h:Hp}{b o:Nat}{cs:List Value}(hb:bY h b cs):cell h ⟨b,o,none⟩=cs[o]? := by
 obtain⟨e,a⟩:=hb;simp[Vc.cell,a]
theorem bY.oE {h:Hp}{b o:Nat}{cs:List Value}(hb:bY h b cs):oE h ⟨b,o,none⟩=false:=by
 obtain⟨e,a⟩:=hb;simp[Vc.oE,a]
theorem bY.set {h:Hp}{b o:Nat}{cs:List Value}(hb:bY h b cs)(v:Value):bY (j3 h ⟨b,o,none⟩ v) b (cs.set o v):=by
 obtain⟨e,a⟩:=hb;refine⟨e,?_⟩;simp[j3,y5,a]
theorem Ui {h:Hp}{a:Addr}{v:Value}{b:Nat}(hne:b≠a.block):(j3 h a v)[b]?=h[b]? := by
 simp only[j3,y5];rw[zB (Ne.symm hne)]
theorem add_lit (b o n:Nat):Addr.add ⟨b,o,none⟩ n=⟨b,o+n,none⟩:=Addr.add_lit b o n
def mN (h:Hp)(b:Nat)(cs:List Value):Prop:=∃e z,h[b]?=some (.cells cs.toArray e z)
theorem bY.q {h:Hp}{b:Nat}{cs:List Value}(hb:bY h b cs):mN h b cs:=by
 obtain⟨e,a⟩:=hb;exact⟨e,_,a⟩
theorem mN.lt {h:Hp}{b:Nat}{cs:List Value}(hb:mN h b cs):b<h.size:=by
 obtain⟨e,z,a⟩:=hb;exact(jT.1 a).1
theorem mN.cell {h:Hp}{b o:Nat}{cs:List Value}(hb:mN h b cs):cell h ⟨b,o,none⟩=cs[o]? := by
 obtain⟨e,z,a⟩:=hb;simp[Vc.cell,a]
def Ext (F:Nat->Prop)(h h':Hp):Prop:=h.size<=h'.size/\∀b,b<h.size->¬F b->h'[b]?=h[b]?
def aF (h h':Hp):Prop:=Ext (λ_=>False) h h'
theorem Ext.refl (F:Nat->Prop)(h:Hp):Ext F h h:=⟨zD _,λ_ _ _=>rfl⟩
theorem Ext.trans {F:Nat->Prop}{a b c:Hp}(h:Ext F a b)(k:Ext F b c):Ext F a c:=
 ⟨kD h.1 k.1,λi hi d=>(k.2 i (wH hi h.1) d).trans (h.2 i hi d)⟩
theorem Ext.mono {F G:Nat->Prop}{a b:Hp}(h:Ext F a b)(hs:∀i,i<a.size->F i->G i):Ext G a b:=
 ⟨h.1,λi hi d=>h.2 i hi λg=>d (hs i hi g)⟩
theorem aF.to {F:Nat->Prop}{a b:Hp}(h:aF a b):Ext F a b:=Ext.mono h λ_ _ h=>h.elim
theorem Ext.fS {F:Nat->Prop}{a b c:Hp}(h:Ext F a b)(k:aF b c):Ext F a c:=h.trans k.to
theorem Ext.size {F:Nat->Prop}{a b:Hp}(h:Ext F a b):a.size<=b.size:=h.1
theorem Ext.push (F:Nat->Prop)(h:Hp)(o:Obj):Ext F h (h.push o):=
 ⟨by simp,λb a _=>by rw[yf,zB (xr a)]⟩
theorem Ext.eW {F:Nat->Prop}{h h':Hp}{r:Nat}(ho:Ka h h' r)(hr:F r):Ext F h h':=
 ⟨Nat.le_of_eq ho.1.symm,λb _ a=>ho.2 b λe=>a (e▸hr)⟩
theorem Ext.j3 {F:Nat->Prop}{h:Hp}{a:Addr}{v:Value}(hr:F a.block):Ext F h (j3 h a v):=
 ⟨Nat.le_of_eq (VH h a v).symm,λb _ d=>Ui λe=>d (e▸hr)⟩
theorem Ext.at_ {F:Nat->Prop}{h h':Hp}(e:Ext F h h'){b:Nat}{o:Obj}(hb:h[b]?=some o)(hf:¬F b):h'[b]?=some o:=by
 rw[e.2 b (jT.1 hb).1 hf];exact hb
theorem Ext.bV {F:Nat->Prop}{h h':Hp}(e:Ext F h h'){b:Nat}{cs:List Value}(hb:bY h b cs)(hf:¬F b):bY h' b cs:=by
 obtain⟨t,a⟩:=hb;exact⟨t,e.at_ a hf⟩
theorem Ext.fX {F:Nat->Prop}{h h':Hp}(e:Ext F h h'){r:Nat}{k:IntKind}{c:CK}{l:List (Int×c.T)}(hb:dM h r k c l)(hf:¬F r):dM h' r k c l:=by
 obtain⟨d,b,g,a⟩:=hb;exact⟨d,b,e.at_ g hf,a⟩
theorem dM.lt {h:Hp}{r:Nat}{k:IntKind}{c:CK}{l:List (Int×c.T)}(hb:dM h r k c l):r<h.size:=by
 obtain⟨d,a,b,_⟩:=hb;exact(jT.1 b).1
theorem dM.nodup {h:Hp}{r:Nat}{k:IntKind}{c:CK}{l:List (Int×c.T)}(hb:dM h r k c l):(l.map (·.1)).Nodup:=by
 obtain⟨d,a,g,_,b,_⟩:=hb;exact b
theorem WF {h h':Hp}{r b:Nat}{cs:List Value}(ho:Ka h h' r)(hb:bY h b cs)(hne:b≠r):bY h' b cs:=by
 obtain⟨t,a⟩:=hb;exact⟨t,by rw[ho.2 b hne];exact a⟩
theorem H9 {h h':Hp}{r b:Nat}{k:IntKind}{c:CK}{l:List (Int×c.T)}(ho:Ka h h' r)(hb:dM h b k c l)(hne:b≠r):dM h' b k c l:=by
 obtain⟨g,d,i,a⟩:=hb;exact⟨g,d,by rw[ho.2 b hne];exact i,a⟩
end Go.Vc
namespace Go.Bu
open Go Go.Vc
theorem NW {a b:Nat}(ha:a<9223372036854775808)(hb:b<9223372036854775808):bits .xor .i64 (a:Int) (b:Int)=((a ^^^ b:Nat):Int):=by
 have i:a ^^^ b<2^63:=Nat.xor_lt_two_pow O O;have d:(BitVec.ofInt 64 (a:Int)).toNat=a:=by
  rw[BitVec.ofInt_natCast,BitVec.toNat_ofNat];exact vI O
 have g:(BitVec.ofInt 64 (b:Int)).toNat=b:=by
  rw[BitVec.ofInt_natCast,BitVec.toNat_ofNat];exact vI O
 show IntKind.i64.wrap ((BitVec.ofInt 64 (a:Int) ^^^ BitVec.ofInt 64 (b:Int)).toNat:Int)=_;rw[BitVec.toNat_xor,d,g,UA]<;>omega
theorem jf {a b:Nat}(ha:a<9223372036854775808)(hb:b<9223372036854775808):bits .and .i64 (a:Int) (b:Int)=((a &&& b:Nat):Int):=by
 have i:a &&& b<2^63:=Nat.and_lt_two_pow _ O;have d:(BitVec.ofInt 64 (a:Int)).toNat=a:=by
  rw[BitVec.ofInt_natCast,BitVec.toNat_ofNat];exact vI O
 have g:(BitVec.ofInt 64 (b:Int)).toNat=b:=by
  rw[BitVec.ofInt_natCast,BitVec.toNat_ofNat];exact vI O
 show IntKind.i64.wrap ((BitVec.ofInt 64 (a:Int) &&& BitVec.ofInt 64 (b:Int)).toNat:Int)=_;rw[BitVec.toNat_and,d,g,UA]<;>omega
theorem ς (q:Nat):q ^^^ 1=ie q:=by
 apply Nat.eq_of_testBit_eq;intro i;rw[Nat.testBit_xor];unfold ie;cases i with
 | zero=>
  simp only[Nat.testBit_zero];split<;>rename_i h
  .have:(q+1)%2=1:=O
   simp[h,this]
  .have a:q%2=1:=O
   have:(q-1)%2=0:=O
   simp[a,this]
 | succ i=>
  simp only[Nat.testBit_succ];have b:(1:Nat)/2=0:=by decide
  rw[b,Nat.zero_testBit,Bool.xor_false]
  congr 1
  split<;>omega
theorem SJ (q k:Nat):(q*2^k) ^^^ (2^k)=ie q*2^k:=by
 have h:=Nat.shiftLeft_xor_distrib (a:=q) (b:=1) (i:=k);rw[ς,Nat.shiftLeft_eq,Nat.shiftLeft_eq,Nat.shiftLeft_eq,Nat.one_mul]at h;exact h.symm
theorem F6 {k:Nat}(h:k<=62):2^k<=4611686018427387904:=pc (n:=2) aB h
def Keys (S:Nat->Bool)(k:Nat)(B:List (Int×Bool)):Prop:=
 (∀x v,(x,v)∈B->v=true/\∃q:Nat,x=((q*2^k:Nat):Int)/\can S k q=true)/\∀q,can S k q=true->(((q*2^k:Nat):Int),true)∈B
structure BH (U:Hp) (p n:Nat) (S:Nat->Bool) (sb:Nat) (ms:List Nat):Prop where
 hd:∃cap,bY U p [.int .i64 n,.slice (some ⟨sb,0,none⟩) ms.length cap]
 row:∃rest,bY U sb (ms.map (λm=>Value.map (some m))++rest)
 maps:∀k m,ms[k]?=some m->∃B:List (Int×Bool),dM U m .i64 .b B/\Keys S k B
 nd:(p::sb::ms).Nodup
 n1:1<=n
 n2:n<=1024
 lo:2^ms.length<=2*n
 hi:n<2^ms.length
 jH:Bounded S n
def fp (p sb:Nat)(ms:List Nat)(b:Nat):Prop:=b∈p::sb::ms
variable {U h':Hp}{p n sb:Nat}{S:Nat->Bool}{ms:List Nat}
theorem BH.len (h:BH U p n S sb ms):ms.length<=11:=by
 have:=h.lo;have:=h.n2;apply Classical.byContradiction;intro hc;have:2^12<=2^ms.length:=pc aB O;omega
theorem BH.fits (h:BH U p n S sb ms){k q:Nat}(hf:q*2^k+2^k<=n):k<ms.length:=by
 apply Classical.byContradiction;intro hc;have:2^ms.length<=2^k:=pc aB O;have:=h.hi;omega
theorem BH.PI (h:BH U p n S sb ms):cell U ⟨p,0,none⟩=some (.int .i64 n):=by
 obtain⟨cap,a⟩:=h.hd;rw[a.cell];rfl
theorem BH.nJ (h:BH U p n S sb ms):∃cap,cell U ⟨p,1,none⟩=some (.slice (some ⟨sb,0,none⟩) ms.length cap):=by
 obtain⟨cap,a⟩:=h.hd;exact⟨cap,by rw[a.cell];rfl⟩
theorem BH.OF (h:BH U p n S sb ms){k m:Nat}(hm:ms[k]?=some m):cell U ⟨sb,k,none⟩=some (.map (some m)):=by
 obtain⟨a,b⟩:=h.row;rw[b.cell,zd (by simpa using(cY.1 hm).1),zZ,hm];rfl
theorem BH.get (h:BH U p n S sb ms){k:Nat}(hk:k<ms.length):∃m,ms[k]?=some m:=⟨ms[k],by simp[hk]⟩
theorem BH.bT (h:BH U p n S sb ms){F:Nat->Prop}(e:Ext F U h')(hF:∀b,fp p sb ms b->¬F b):BH h' p n S sb ms where
 hd:=by obtain⟨cap,d⟩:=h.hd;exact⟨cap,e.bV d (hF _ (by simp[fp]))⟩
 row:=by obtain⟨a,d⟩:=h.row;exact⟨a,e.bV d (hF _ (by simp[fp]))⟩
 maps:=λk m g=>by
  obtain⟨B,j,i⟩:=h.maps k m g;exact⟨B,e.fX j (hF _ (by simp[fp,zG g])),i⟩
 nd:=h.nd
 n1:=h.n1
 n2:=h.n2
 lo:=h.lo
 hi:=h.hi
 jH:=h.jH
theorem BH.bP (h:BH U p n S sb ms)(e:aF U h'):BH h' p n S sb ms:=h.bT e λ_ _=>id
theorem Ot {k:Nat}{B:List (Int×Bool)}(hK:Keys S k B)(hn:(B.map (·.1)).Nodup)(q:Nat):bS B ((q*2^k:Nat):Int)=if can S k q then some true else none:=by
 unfold bS;cases hf:B.find? λx=>x.1==((q*2^k:Nat):Int)with
 | some x=>
  have j:=tY hf;have a:=tO hf;obtain⟨g,p⟩:=x;obtain⟨m,r,i,b⟩:=hK.1 g p a;have d:g=((q*2^k:Nat):Int):=by simpa using j
  rw[d]at i;have:q*2^k=r*2^k:=by exact_mod_cast i
  have:=wX (lb k) this;subst this;subst m;simp[b]
 | none=>
  rw[oD]at hf;by_cases b:can S k q=true
  .have:=hf _ (hK.2 q b);simp at this
  .simp[b]
theorem BH.lk (h:BH U p n S sb ms){k m q:Nat}(hm:ms[k]?=some m){x:Int}(hx:x=((q*2^k:Nat):Int)){K:Option Bool->Prop}
 (hK:K (if can S k q then some true else none)):Lk .i64 .b (some m) x U K:=by
 obtain⟨B,a,d⟩:=h.maps k m hm;exact⟨B,a,by rw[hx,Ot d a.nodup];exact hK⟩
theorem Ff {k:Nat}{B:List (Int×Bool)}(hK:Keys S k B)(hn:(B.map (·.1)).Nodup)(hb:Bounded S n):B.length=many n S k:=by
 have r:(B.map (·.1)).Perm (((List.range n).filter (can S k)).map λq=>((q*2^k:Nat):Int)):=by
  rw[Cx hn]
  .intro x;simp only[zE,zK,zg];constructor
   .rintro⟨⟨x1,x2⟩,hm,rfl⟩;obtain⟨_,q,p,d⟩:=hK.1 x1 x2 hm;refine⟨q,⟨?_,d⟩,p.symm⟩;have:=Qc hb (Z1.1 d).1;have m:=lb k;have s:q<=q*2^k:=Nat.le_mul_of_pos_right _ m;omega
   .rintro⟨q,⟨_,d⟩,rfl⟩;exact⟨_,hK.2 q d,rfl⟩
  .have i:((List.range n).filter (can S k)).Pairwise (· ≠ ·):=List.Pairwise.sublist uB List.nodup_range;refine List.Pairwise.map _ (λa b (g:a≠b) j=>g ?_) i;have:a*2^k=b*2^k:=by exact_mod_cast j
   exact wX (lb k) this
 have:=r.length_eq;simp only[zk]at this;rw[this,many,AK]
theorem BH.lg (h:BH U p n S sb ms){k m:Nat}(hm:ms[k]?=some m){K:Int->Prop}(hK:K ((many n S k:Nat):Int)):r9 .i64 .b (some m) U K:=by
 obtain⟨B,a,d⟩:=h.maps k m hm;exact⟨B,a,by rw[Ff d a.nodup h.jH];exact hK⟩
theorem BH.oS (h:BH U p n S sb ms){k m:Nat}{T:Nat->Bool}(hm:ms[k]?=some m)(ho:Ka U h' m){B':List (Int×Bool)}(hB':dM h' m .i64 .b B')(hK':Keys T k B')
 (hoth:∀j q,j≠k->can T j q=can S j q) (hT:Bounded T n):BH h' p n T sb ms where
 hd:=by
  obtain⟨cap,s⟩:=h.hd;refine⟨cap,WF ho s ?_⟩;have:=h.nd;simp only[zr,zW,not_or]at this;rintro rfl;exact this.1.2 (zG hm)
 row:=by
  obtain⟨i,s⟩:=h.row;refine⟨i,WF ho s ?_⟩;have:=h.nd;simp only[zr,zW,not_or]at this;rintro rfl;exact this.2.1 (zG hm)
 maps:=λj A a=>by
  by_cases e:j=k
  .subst e;rw[hm]at a;cases a;exact⟨B',hB',hK'⟩
  .obtain⟨B,C,d⟩:=h.maps j A a;refine⟨B,H9 ho C ?_,?_⟩
   .rintro rfl;have g:=h.nd;simp only[zr]at g;exact e ((List.getElem?_inj (cY.1 a).1 g.2.2).1 (a.trans hm.symm))
   .refine⟨λx v z=>?_,λq y=>d.2 q (by rw[←hoth j q e];exact y)⟩;obtain⟨u,q,r,w⟩:=d.1 x v z;exact⟨u,q,r,by rw[hoth j q e];exact w⟩
 nd:=h.nd
 n1:=h.n1
 n2:=h.n2
 lo:=h.lo
 hi:=h.hi
 jH:=hT
theorem OW (hb:Bounded S n)(k q:Nat):Bounded (del S k q) n:=λx a=>hb x (V5.1 a).1
theorem Jk (hb:Bounded S n){k q:Nat}(hf:q*2^k+2^k<=n):Bounded (ins S k q) n:=λx a=>by
 rcases V8.1 a with h|h
 .exact hb x h
 .have:=QI.1 h;omega
theorem Lj {a b:Bool}(h:a=true↔b=true):a=b:=by cases a<;>cases b<;>simp_all
theorem BH.sT (h:BH U p n S sb ms){k m q:Nat}(hm:ms[k]?=some m)(hc:can S k q=true){x:Int}(hx:x=((q*2^k:Nat):Int)){K:aP}
 (hK:∀h',Ext (· ∈ ms) U h'->BH h' p n (del S k q) sb ms->K h'):l5 .i64 .b (some m) x U K:=by
 obtain⟨B,D,w⟩:=h.maps k m hm;refine⟨B,D,λh' u _ g=>hK h' (Ext.eW (u m rfl) (zG hm)) ?_⟩;refine h.oS hm (u m rfl) g ⟨λy v i=>?_,λr C=>?_⟩ (λj r z=>Lj ?_) (OW h.jH k q)
 .simp only[cO,zK,mJ,mV]at i;obtain⟨A,r,d,s⟩:=w.1 y v i.1;refine⟨A,r,d,(B7 hc).2 ⟨s,λe=>i.2 ?_⟩⟩;rw[d,hx,e.2]
 .have a:=(B7 hc).1 C;simp only[cO,zK,mJ,mV];refine⟨w.2 r a.1,λe=>a.2 ⟨rfl,?_⟩⟩;rw[hx]at e;have:r*2^k=q*2^k:=by exact_mod_cast e
  exact wX (lb k) this
 .rw[B7 hc];exact⟨λh=>h.1,λh=>⟨h,λe=>z e.1⟩⟩
theorem BH.xB (h:BH U p n S sb ms){k m q:Nat}(hm:ms[k]?=some m)(hd:∀y,y/2^k=q->S y=false)(hup:¬full (ins S k q) (k+1) (q/2)=true)(hf:q*2^k+2^k<=n)
 {x:Int} (hx:x=((q*2^k:Nat):Int)) {K:aP} (hK:∀h',Ext (· ∈ ms) U h'->BH h' p n (ins S k q) sb ms->K h'):kS .i64 .b (some m) x true U K:=by
 obtain⟨B,F,z⟩:=h.maps k m hm;refine⟨m,B,rfl,F,λh' A w=>hK h' (Ext.eW A (zG hm)) ?_⟩;have s:∀y∈B,(y.1==x)=false:=by
  rintro⟨y,v⟩ d;obtain⟨_,r,a,g⟩:=z.1 y v d;simp only[mV];rintro rfl;rw[hx]at a;have:q*2^k=r*2^k:=by exact_mod_cast a
  have:=wX (lb k) this;subst this;have u:=Ur g (Vl k q);rw[hd _ (Vl k q)]at u;cases u
 have i:cX B x true=B++[(x,true)]:=by
  unfold cX;rw[zB];simp only[rU,mG];intro y d;simp[s y d]
 refine h.oS hm A w ?_ (λj r C=>Lj ?_) (Jk h.jH hf)
 .rw[i];refine⟨λy v d=>?_,λr E=>?_⟩
  .simp only[zJ,zN,Prod.mk.injEq]at d;rcases d with d|⟨rfl,rfl⟩
   .obtain⟨D,r,a,g⟩:=z.1 y v d;exact⟨D,r,a,(AG hd hup).2 (.inl g)⟩
   .exact⟨rfl,q,hx,(AG hd hup).2 (.inr ⟨rfl,rfl⟩)⟩
  .rcases(AG hd hup).1 E with u|⟨_,rfl⟩
   .exact kN _ (z.2 r u)
   .rw[hx];exact oP _ aA
 .rw[AG hd hup];exact⟨λh=>h.elim id λe=>(C e.1).elim,.inl⟩
end Go.Bu
namespace Go.Vc
open Go
theorem V9 {b o:Nat}:∀{vs:List Value} {h:Hp} {cs:List Value} {i:Nat} {K:aP},bY h b cs->o+i+vs.length<=cs.length →
 (∀h',Ka h h' b->bY h' b (cs.take (o+i)++vs++cs.drop (o+i+vs.length))->K h')->qA ⟨b,o,none⟩ h vs i K
 | [],h,cs,i,K,hb,hl,hK=>hK h ⟨rfl,λ_ _=>rfl⟩ (by simpa using hb)
 | v::vs,h,cs,i,K,hb,hl,hK=>by
  simp only[zS]at hl;refine⟨?_,?_,?_⟩
  .rw[add_lit,hb.cell,cW O];rfl
  .rw[add_lit];exact hb.oE
  .rw[add_lit];have hb':=hb.set (o:=o+i) v;refine V9 hb' aE λh' d a=>hK h' ?_ ?_
   .exact⟨d.1.trans (VH _ _ _),λc g=>(d.2 c g).trans (Ui g)⟩
   .have e:(cs.set (o+i) v).take (o+(i+1))++vs++(cs.set (o+i) v).drop (o+(i+1)+vs.length)=cs.take (o+i)++v::vs++cs.drop (o+i+(v::vs).length):=by
     rw[List.drop_set_of_lt O,show o+(i+1)=(o+i)+1 by omega,kB,List.take_set_of_le O,zO O];simp only[ru,zl,List.singleton_append,lN,tg,zS]
     congr 4
     omega
    rw[e]at a;exact a
def Own (Q:Nat->Prop)(h:Hp)(s:Sl)(sz:Nat)(xs:List Value):Prop:=
 xs.length=s.len*sz/\(s.a=none/\s.len=0/\s.cap=0\/∃b cs,Q b/\s.a=some ⟨b,0,none⟩/\bY h b cs/\s.len<=s.cap/\cs.length=s.cap*sz/\cs.take xs.length=xs)
def H8 (s:Sl)(b:Nat):Prop:=∃o,s.a=some ⟨b,o,none⟩
theorem Own.nil (Q:Nat->Prop)(h:Hp)(sz:Nat):Own Q h ⟨none,0,0⟩ sz []:=⟨by simp,.inl ⟨rfl,rfl,rfl⟩⟩
theorem Own.bT {Q F:Nat->Prop}{h h':Hp}{s:Sl}{sz:Nat}{xs:List Value}(ho:Own Q h s sz xs)(e:Ext F h h')(hF:∀b,Q b->b<h.size->¬F b):Own Q h' s sz xs:=by
 refine⟨ho.1,ho.2.imp id ?_⟩;rintro⟨b,cs,hq,ha,hb,r⟩;exact⟨b,cs,hq,ha,e.bV hb (hF b hq hb.lt),r⟩
theorem Own.bP {Q:Nat->Prop}{h h':Hp}{s:Sl}{sz:Nat}{xs:List Value}(ho:Own Q h s sz xs)(e:aF h h'):Own Q h' s sz xs:=ho.bT e λ_ _ _ h=>h
theorem Own.mono {Q Q':Nat->Prop}{h:Hp}{s:Sl}{sz:Nat}{xs:List Value}(ho:Own Q h s sz xs)(hq:∀b,b<h.size->Q b->Q' b):Own Q' h s sz xs:=by
 refine⟨ho.1,ho.2.imp id ?_⟩;rintro⟨b,cs,hQ,ha,hb,r⟩;exact⟨b,cs,hq b hb.lt hQ,ha,hb,r⟩
theorem Own.jq {Q:Nat->Prop}{h:Hp}{s:Sl}{sz:Nat}{xs:List Value}(ho:Own Q h s sz xs){b:Nat}(hb:H8 s b):Q b/\b<h.size:=by
 obtain⟨o,a⟩:=hb;rcases ho.2 with⟨ha,_⟩|⟨b',cs,hq,ha,hk,_⟩
 .rw[ha]at a;cases a
 .rw[ha]at a;cases a;exact⟨hq,hk.lt⟩
theorem Own.rd {Q:Nat->Prop}{h:Hp}{s:Sl}{sz:Nat}{xs:List Value}(ho:Own Q h s sz xs):Rd h s.a xs:=by
 rcases ho.2 with⟨ha,hl,_⟩|⟨b,cs,_,ha,hb,_,_,ht⟩
 .rw[ha];have:=ho.1;rw[hl]at this;simp at this;exact this
 .rw[ha];intro j v hv;rw[add_lit,hb.cell,zH];rw[←ht,zm]at hv;split at hv
  .exact hv
  .cases hv
theorem Own.cell {Q:Nat->Prop}{h:Hp}{s:Sl}{sz:Nat}{xs:List Value}(ho:Own Q h s sz xs){j:Nat}{v:Value}(hv:xs[j]?=some v):∃b,s.a=some ⟨b,0,none⟩/\Vc.cell h ⟨b,j,none⟩=some v:=by
 rcases ho.2 with⟨ha,hl,_⟩|⟨b,cs,_,ha,hb,_,_,ht⟩
 .have:=ho.1;rw[hl]at this;simp at this;subst this;simp at hv
 .refine⟨b,ha,?_⟩;rw[hb.cell];rw[←ht,zm]at hv;split at hv
  .exact hv
  .cases hv
theorem Own.app {Q:Nat->Prop}{h:Hp}{s x:Sl}{sz bytes e:Nat}{zs xs ys:List Value}{K:Sl->Hp->Prop}(ho:Own Q h s sz xs)(hq:∀b,h.size<=b->Q b)(hz:zs.length=sz)
 (hy:ys.length=x.len*sz) (hr:Rd h x.a ys) (h1:∀v∈ys,dY v=true) (hb:(s.len+x.len)*bytes<=2^46) (hc:s.len+x.len<=2^62)
 (hx:0<x.len) (hK:∀s' h',s'.len=s.len+x.len->Ext (H8 s) h h'->Own Q h' s' sz (xs++ys)->s'.a≠none->K s' h'):App s sz bytes e zs x h K:=by
 refine⟨xs,ys,ho.1,hy,ho.rd,hr,h1,hb,hc,λg=>?_,λp c j=>?_⟩
 .rcases ho.2 with⟨ha,hl,hcap⟩|⟨b,cs,hQ,ha,hk,hle,hcl,ht⟩
  .omega
  .rw[ha];simp only;rw[add_lit];have r:(s.len+x.len)*sz<=s.cap*sz:=mD _ g;rw[zo]at r;have d:=ho.1;refine V9 hk O λh' i m=>hK _ h' rfl (Ext.eW i ⟨0,ha⟩) ⟨?_,.inr ⟨b,_,hQ,rfl,m,g,?_,?_⟩⟩ aA
   .simp[d,hy,zo]
   .simp;omega
   .rw[zM,d];rw[zH,kr,←d];rw[ht,pA aA,lP aA]
 .refine hK _ _ rfl (Ext.push _ _ _) ⟨by simp[ho.1,hy,zo],.inr ⟨h.size,xs++ys++(List.replicate (c-(s.len+x.len)) zs).flatten,hq _ (zD _),rfl,⟨e,by simp⟩,j,?_,?_⟩⟩ aA
  .simp only[zM,wV,wB,yl,ho.1,hy,hz,←zo]
   congr 1;omega
  .rw[pA aA,lP aA]
theorem Wnt {h:Hp}{v:Value}{e:Nat}:Rd (h.push (.cells #[v] e (0,0))) (some ⟨h.size,0,none⟩) [v]:=by
 intro j u hu;rw[add_lit];cases j with
 | zero=>simp at hu;subst hu;simp[Vc.cell]
 | succ j=>simp at hu
theorem bY.Rk {h:Hp}{b o:Nat}{cs:List Value}(hb:bY h b cs){v:Value}(ho:o<cs.length){K:aP}(hK:∀h',Ka h h' b->bY h' b (cs.set o v)->K h'):dG (Addr.add ⟨b,0,none⟩ o) v h K:=by
 rw[add_lit,zH];refine⟨?_,hb.oE,hK _ ⟨VH _ _ _,λc a=>Ui a⟩ (hb.set v)⟩;rw[hb.cell,cW ho];rfl
theorem bY.push (h:Hp)(cs:List Value)(e:Nat):bY (h.push (.cells cs.toArray e (0,0))) h.size cs:=⟨e,by simp⟩
theorem dM.push (h:Hp)(k:IntKind)(c:CK):dM (h.push (.map #[] 0)) h.size k c []:=⟨#[],0,by simp,by simp,by simp,by simp,by simp⟩
theorem Ext.only {F:Nat->Prop}{a b c:Hp}{r:Nat}(e:Ext F a b)(ho:Ka b c r)(hr:F r\/a.size<=r):Ext F a c:=
 ⟨by rw[ho.1];exact e.1,λi hi d=>by
  rw[ho.2 i ?_];exact e.2 i hi d;rintro rfl;rcases hr with h|h
  .exact d h
  .omega⟩
theorem Ext.fresh {a b c:Hp}{F:Nat->Prop}(e:aF a b)(k:Ext F b c)(hF:∀i,F i->a.size<=i):aF a c:=
 ⟨kD e.1 k.1,λi hi _=>(k.2 i (wH hi e.1) λd=>by have:=hF i d;omega).trans (e.2 i hi id)⟩
theorem Own.st {Q:Nat->Prop}{h:Hp}{s:Sl}{sz:Nat}{xs:List Value}(ho:Own Q h s sz xs){j:Nat}(hj:j<xs.length){v:Value}{K:aP}{a:Addr}(ha:∀b,s.a=some ⟨b,0,none⟩->a=⟨b,j,none⟩)
 (hK:∀h',Ext (H8 s) h h'->Own Q h' s sz (xs.set j v)->K h'):dG a v h K:=by
 rcases ho.2 with⟨h1,hl,_⟩|⟨b,cs,hq,hsa,hb,hle,hcl,ht⟩
 .have:=ho.1;rw[hl]at this;simp at this;subst this;simp at hj
 .rw[ha b hsa];have d:j<cs.length:=by
   have:(cs.take xs.length).length=xs.length:=by rw[ht]
   rw[zY]at this;omega
  refine⟨by rw[hb.cell,cW d];rfl,hb.oE,hK _ (Ext.j3 (F:=H8 s) ⟨0,hsa⟩) ⟨by simp[ho.1],.inr ⟨b,_,hq,hsa,hb.set v,hle,by simp[hcl],?_⟩⟩⟩;rw[pH,List.take_set,ht]
end Go.Vc