/- Texts joined. -/
import Init
import Derived.WalkKit
import Derived.WalkLawsBesides
import Derived.WalkSpells
import Derived.ChangeKeysEq
import Derived.StillTail
import Derived.OrdersHeld
import Derived.Scope
set_option linter.unusedVariables false
set_option linter.unusedSimpArgs false
abbrev zA:=@if_neg
abbrev zB:=@if_pos
abbrev zC:=@List.mem_map
abbrev zD:=@Nat.le_refl
abbrev zE:=@List.mem_of_getElem?
abbrev zF:=@Bool.and_eq_true
abbrev zG:=@Nat.zero_add
abbrev zH:=@List.mem_filter
abbrev zI:=@Nat.le_trans
abbrev zJ:=@List.map_cons
abbrev zK:=@List.length_append
abbrev zL:=@List.getElem?_set_self
abbrev zM:=@List.getD_eq_getElem?_getD
abbrev zN:=@List.getElem?_of_mem
abbrev zO:=@List.length_take
abbrev zP:=@List.length_cons
abbrev zQ:=@List.mem_cons
abbrev zR:=@List.mem_append
abbrev zS:=@if_true
abbrev zT:=@decide_eq_true_eq
abbrev zU:=@List.mem_range
abbrev zV:=@List.mem_singleton
abbrev zW:=@decide_eq_true
abbrev zX:=@List.getElem?_take
abbrev zY:=@List.getElem?_eq_none
abbrev zZ:=@beq_iff_eq
abbrev za:=@List.length_map
abbrev zb:=@Bool.false_eq_true
abbrev zc:=@List.getElem_mem
abbrev zd:=@decide_eq_false
abbrev ze:=@List.getElem?_append_left
abbrev zf:=@List.getElem?_map
abbrev zg:=@Option.map_some
abbrev zh:=@List.take_add_one
abbrev zi:=@List.getElem?_set_ne
abbrev zj:=@Nat.add_mul
abbrev zk:=@Int.eq_ofNat_of_zero_le
abbrev zl:=@List.take_length
abbrev zm:=@List.getElem?_append_right
abbrev zn:=@List.getElem?_drop
abbrev zo:=@List.nodup_cons
abbrev zp:=@Nat.add_zero
abbrev zq:=@List.length_drop
abbrev zr:=@List.sum_cons
abbrev zt:=@if_false
abbrev zu:=@List.ext_getElem?
abbrev zw:=@List.any_eq_true
abbrev zy:=@List.append_nil
abbrev zz:=@List.append_assoc
abbrev zAA:=@List.all_eq_true
abbrev zAB:=@List.range_succ
abbrev zAC:=@List.map_map
abbrev zAD:=@List.map_append
abbrev zAE:=@List.pairwise_iff_getElem
abbrev zAF:=@Nat.mul_le_mul
abbrev zAG:=@Nat.two_pow_pos
abbrev zAH:=@List.map_congr_left
abbrev zAI:=@List.foldl_cons
abbrev zAJ:=@Nat.mul_le_mul_right
abbrev zAK:=@Nat.eq_of_beq_eq_true
abbrev zAL:=@List.cons_append
abbrev zAM:=@List.mem_cons_of_mem
abbrev zAN:=@Nat.lt_or_ge
abbrev zAO:=@List.length_nil
abbrev zAP:=@List.mem_cons_self
abbrev zAQ:=@Array.getElem?_eq_some_iff
abbrev zAR:=@List.pairwise_cons
abbrev zAS:=@List.foldl_append
abbrev zAT:=@Bool.eq_false_iff
abbrev zAU:=@List.getElem?_replicate
abbrev zAV:=@Nat.pow_succ
abbrev zAW:=@Bool.not_eq_true'
abbrev zAX:=@List.any_eq_false
abbrev zAY:=@List.mem_of_mem_take
abbrev zAZ:=@List.take_of_length_le
abbrev zBA:=@List.length_filter_le
abbrev zBB:=@List.flatMap_cons
abbrev zBC:=@beq_eq_false_iff_ne
abbrev zBD:=@Bool.eq_iff_iff
abbrev zBE:=@List.take_append_drop
abbrev zBF:=@List.mem_append_left
abbrev zBG:=@Nat.zero_lt_one
abbrev zBH:=@List.getElem?_set
abbrev zBI:=@Nat.mul_one
abbrev zBJ:=@List.nodup_append
abbrev zBK:=@List.filter_eq_self
abbrev zBL:=@Bool.or_eq_true
abbrev zBM:=@List.find?_eq_none
abbrev zBN:=@List.getElem?_range
abbrev zBO:=@List.set_set
abbrev zBP:=@Nat.pow_le_pow_right
abbrev zBQ:=@List.findIdx?_eq_some_iff_getElem
abbrev zBR:=@List.length_set
abbrev zBS:=@List.length_range
abbrev zBT:=@List.pairwise_append
abbrev zBU:=@Option.getD_some
abbrev zBV:=@List.mem_append_right
abbrev zBW:=@List.nil_append
abbrev zBX:=@List.take_append_of_le_length
abbrev zBY:=@Nat.sub_self
abbrev zBZ:=@of_decide_eq_true
abbrev zCA:=@Nat.lt_trichotomy
abbrev zCB:=@Option.isSome_iff_exists
abbrev zCC:=@List.map_nil
abbrev zCD:=@Nat.min_eq_left
abbrev zCE:=@List.drop_eq_getElem_cons
abbrev zCF:=@Nat.add_assoc
abbrev zCG:=@List.length_pos_iff
abbrev zCH:=@Int.le_refl
abbrev zCI:=@List.countP_cons
abbrev zCJ:=@Option.map_eq_some_iff
abbrev zCK:=@List.filter_cons
abbrev zCL:=@List.mem_of_mem_drop
abbrev zCM:=@Bool.not_eq_true
abbrev zCN:=@List.pairwise_map
abbrev zCO:=@Option.map_eq_none_iff
abbrev zCP:=@List.mem_flatMap
abbrev zCQ:=@List.nodup_nil
abbrev zCR:=@of_decide_eq_false
abbrev zCS:=@Nat.le_of_lt
abbrev zCT:=@List.filter_sublist
abbrev zCU:=@List.getElem_map
abbrev zCV:=@Array.getD_eq_getD_getElem?
abbrev zCW:=@List.contains_eq_mem
abbrev zCX:=@Bool.and_false
abbrev zCY:=@List.set_cons_succ
abbrev zCZ:=@List.take_succ_cons
abbrev zDA:=@Nat.div_div_eq_div_mul
abbrev zDB:=@List.getElem?_modify
abbrev zDC:=@List.contains_iff_mem
abbrev zDD:=@Bool.and_true
abbrev zDE:=@List.find?_some
abbrev zDF:=@List.mem_of_find?_eq_some
abbrev zDG:=@Option.toList_some
abbrev zDH:=@List.map_replicate
abbrev zDI:=@Bool.false_and
abbrev zDJ:=@List.map_set
abbrev zDK:=@List.sum_append
abbrev zDL:=@List.filter_cons_of_neg
abbrev zDM:=@List.filter_cons_of_pos
abbrev zDN:=@List.length_singleton
abbrev zDO:=@true_and
abbrev zDP:=@Nat.mod_lt
abbrev zDQ:=@List.countP_append
abbrev zDR:=@List.find?_cons
abbrev zDS:=@List.all_cons
abbrev zDT:=@List.findIdx?_eq_none_iff
abbrev zDU:=@List.flatten_cons
abbrev zDV:=@Nat.mod_eq_of_lt
abbrev zDW:=@Nat.mul_eq_zero
abbrev zDX:=@Nat.zero_mul
abbrev zDY:=@List.getElem_of_mem
abbrev zDZ:=@List.filterMap_append
abbrev zEA:=@Nat.lt_of_lt_of_le
abbrev zEB:=@List.length_flatten
abbrev zEC:=@List.sum_replicate_nat
abbrev zED:=@Bool.decide_and
abbrev zEE:=@List.countP_le_length
abbrev zEF:=@List.count_append
abbrev zEG:=@List.count_le_length
abbrev zEH:=@List.filter_append
abbrev zEI:=@Bool.true_and
abbrev zEJ:=@List.findIdx?_cons
abbrev zEK:=@List.map_id
abbrev zEL:=@Nat.mul_assoc
abbrev zEM:=@Nat.ne_of_lt
abbrev zEN:=@Array.length_toList
abbrev zEO:=@List.mem_filterMap
abbrev zEP:=@Nat.eq_of_mul_eq_mul_right
abbrev zEQ:=@List.perm_ext_iff_of_nodup
abbrev zER:=@List.nodup_range
abbrev zES:=@List.countP_eq_length_filter
abbrev zET:=@Nat.eq_zero_or_pos
abbrev zEU:=@List.replicate_succ
abbrev zEV:=@List.takeWhile_cons
abbrev zEW:=@List.mem_or_eq_of_mem_set
abbrev zEX:=@List.getElem?_cons_zero
abbrev zEY:=@List.count_eq_zero
abbrev zEZ:=@Nat.div_mul_le_self
abbrev zFA:=@List.map_eq_nil_iff
abbrev zFB:=@Array.getElem?_toList
abbrev zFC:=@Array.getElem?_setIfInBounds_ne
abbrev zFD:=@List.mem_map_of_mem
abbrev zFE:=@List.mem_replicate
abbrev zFF:=@Array.getElem?_push
abbrev zFG:=@List.filter_congr
abbrev zFH:=@Option.bind_some
abbrev zFI:=@Bool.false_or
abbrev zFJ:=@Bool.not_false
abbrev zFK:=@Array.getElem?_modify
abbrev zFL:=@List.set_append_right
abbrev zFM:=@List.count_replicate
abbrev zFN:=@List.take_take
abbrev zFO:=@List.take_left'
abbrev zFP:=@List.drop_succ_cons
abbrev zFQ:=@List.dropLast_eq_take
abbrev zFR:=@List.range_succ_eq_map
abbrev zFS:=@List.take_zero
abbrev zFT:=@List.length_eq_zero_iff
abbrev zFU:=@List.findIdx?_eq_some_iff_findIdx_eq
abbrev zFV:=@List.size_toArray
abbrev zFW:=@Nat.mul_div_cancel
abbrev zFX:=@List.countP_congr
abbrev zFY:=@Nat.le_mul_of_pos_right
abbrev zFZ:=@Array.mem_of_getElem?
abbrev zGA:=@Array.toList_modify
abbrev zGB:=@Array.toList_eraseIdxIfInBounds
abbrev zGC:=@List.replicate_succ'
abbrev zGD:=@List.flatten_append
abbrev zGE:=@List.filter_filter
abbrev zGF:=@List.filterMap_cons
abbrev zGG:=@Array.getElem?_append_left
abbrev zGH:=@List.length_dropLast
abbrev zGI:=@List.getElem?_cons_succ
abbrev zGJ:=@List.eq_nil_of_length_eq_zero
abbrev zGK:=@Nat.add_sub_cancel_left
abbrev zGL:=@List.flatMap_append
abbrev zGM:=@List.take_sublist
abbrev zGN:=@List.dropWhile_cons
abbrev zGO:=@List.drop_sublist
abbrev zGP:=@List.find?_isSome
abbrev zGQ:=@List.eq_of_mem_replicate
abbrev zGR:=@List.takeWhile_append_dropWhile
abbrev zGS:=@List.takeWhile_cons_of_neg
abbrev zGT:=@List.drop_eq_nil_of_le
abbrev zGU:=@Nat.add_sub_cancel
abbrev zGV:=@List.zip_cons_cons
abbrev zGW:=@List.getElem?_zipWith
abbrev zGX:=@List.nodup_iff_count
abbrev zGY:=@List.count_pos_iff
abbrev zGZ:=@List.count_singleton_self
theorem gSi {α:Type _}{l:List α}{i:Nat}{a:α}:l[i]?=some a↔∃h:i<l.length,l[i]=a:=List.getElem?_eq_some_iff
theorem gGe {α:Type _}{l:List α}{i:Nat}(h:i<l.length):l[i]?=some l[i]:=List.getElem?_eq_getElem h
theorem iTn (n:Nat):(n:Int).toNat=n:=Int.toNat_natCast n
theorem O{p:Prop}(h:p:=by omega):p:=h
theorem aA{p:Prop}(h:p:=by simp):p:=h
theorem aB{p:Prop}(h:p:=by decide):p:=h
theorem aC{p:Prop}(h:p:=by simp only;omega):p:=h
theorem aD{p:Prop}(h:p:=by first|omega | (simp only;omega)):p:=h
theorem aE{p:Prop}(h:p:=by simp;omega):p:=h
abbrev aW(b:Nat):Option Go.Addr:=some ⟨b,0,none⟩
namespace Go.Ar
structure Cls where
 size:Nat
 pages:Nat
 batch:Nat
 deriving DecidableEq
def Cls.n (c:Cls):Nat:=c.pages*256/c.size
def Cls.tail (c:Cls):Nat:=c.pages*256-c.n*c.size
def Uf (x y z:Int):Bool:=decide (8<=x)&&(decide (x<=512)&&(decide (x%8=0)&&(decide (1<=y)&&(decide (y<=4)&&(decide (x<=y*256)&&(decide (1<=z)&&decide (z<=32)))))))
def Cls.ok (c:Cls):Prop:=8<=c.size/\c.size<=512/\c.size%8=0/\1<=c.pages/\c.pages<=4/\c.size<=c.pages*256/\1<=c.batch/\c.batch<=32
theorem Hu (x y z:Int):Uf x y z=true↔8<=x/\x<=512/\x%8=0/\1<=y/\y<=4/\x<=y*256/\1<=z/\z<=32:=by simp[Uf]
theorem Uh (c:Cls):Uf c.size c.pages c.batch=true↔c.ok:=by
 rw[Hu];unfold Cls.ok;omega
def ZV (t:Int×Int×Int):Cls:=⟨t.1.toNat,t.2.1.toNat,t.2.2.toNat⟩
theorem GX {x y z:Int}(h:Uf x y z=true):∃c:Cls,c.ok/\ZV (x,y,z)=c/\x=c.size/\y=c.pages/\z=c.batch:=by
 rw[Hu]at h;refine⟨ZV (x,y,z),?_,rfl,?_,?_,?_⟩<;>simp only[ZV,Cls.ok]<;>omega
def WbM:List (Int×Int×Int)->Bool
 | x::y::l=>decide (x.1<y.1)&&WbM (y::l)
 | _=>true
def Qi (xs:List (Int×Int×Int)):Bool:=decide (1<=xs.length)&&(decide (xs.length<=40)&&(xs.all (λt=>Uf t.1 t.2.1 t.2.2)&&WbM xs))
theorem Cls.ok.n_pos {c:Cls}(h:c.ok):1<=c.n:=by
 unfold Cls.ok at h;exact(Nat.one_le_div_iff O).2 h.2.2.2.2.2.1
theorem Cls.ok.n_le {c:Cls}(h:c.ok):c.n<=128:=by
 unfold Cls.ok at h;unfold Cls.n;have:c.pages*256/c.size<=1024/8:=Nat.div_le_div O O O;omega
theorem Cls.n_mul (c:Cls):c.n*c.size<=c.pages*256:=zEZ _ _
structure SpA where
 st:Nat
 tk:List Bool
 deriving DecidableEq
def SpA.many (s:SpA):Nat:=s.tk.count true
def idx (c:Cls)(s:SpA)(x:Int):Option Nat:=if x<((s.st*256:Nat):Int)\/((s.st*256+s.tk.length*c.size:Nat):Int)<=x then none else some ((x-((s.st*256:Nat):Int)).toNat/c.size)
def at_ (c:Cls)(s:SpA)(i:Nat):Nat:=s.st*256+i*c.size
def obj (c:Cls)(s:SpA)(x:Int):Option Nat:=match idx c s x with
 | some i=>if x=((at_ c s i:Nat):Int)then some i else none
 | none=>none
theorem V6 {c:Cls}{s:SpA}{x:Int}{i:Nat}(hc:0<c.size):idx c s x=some i↔((at_ c s i:Nat):Int)<=x/\x<((at_ c s (i+1):Nat):Int)/\i<s.tk.length:=by
 unfold idx at_;constructor
 ·intro h;split at h
  ·cases h
  ·rename_i hn;cases h;obtain⟨y,rfl⟩:=zk (show 0<=x by omega);have e:((y:Int)-((s.st*256:Nat):Int)).toNat=y-s.st*256:=by omega
   rw[e];have g:(y-s.st*256)/c.size*c.size<=y-s.st*256:=zEZ _ _;have b:=Nat.lt_div_mul_add (a:=y-s.st*256) hc;have d:(y-s.st*256)/c.size<s.tk.length:=(Nat.div_lt_iff_lt_mul hc).2 O;rw[zj];omega
 ·rintro⟨g,b,d⟩;obtain⟨y,rfl⟩:=zk (show 0<=x by omega);have j:(i+1)*c.size<=s.tk.length*c.size:=zAJ _ d;rw[zA O];have e:((y:Int)-((s.st*256:Nat):Int)).toNat=y-s.st*256:=by omega
  rw[e]
  congr 1
  rw[zj]at b;refine Nat.div_eq_of_lt_le ?_ ?_
  ·omega
  ·rw[zj];omega
theorem UK {c:Cls}{s:SpA}{x:Int}{i:Nat}(hc:0<c.size):obj c s x=some i↔x=((at_ c s i:Nat):Int)/\i<s.tk.length:=by
 unfold obj;constructor
 ·intro h;split at h
  ·rename_i j hj;split at h
   ·cases h;rename_i he;exact⟨he,((V6 hc).1 hj).2.2⟩
   ·cases h
  ·cases h
 ·rintro⟨rfl,hi⟩;have:idx c s ((at_ c s i:Nat):Int)=some i:=(V6 hc).2 ⟨zCH _,by unfold at_;rw[zj];omega,hi⟩;rw[this];simp
def low (s:SpA):Option Nat:=s.tk.findIdx? (· == false)
def SpA.put (s:SpA)(i:Nat)(v:Bool):SpA:={s with tk:=s.tk.set i v}
def ofS (c:Cls)(ss:List SpA)(x:Int):Option Nat:=ss.findIdx? λs=>(idx c s x).isSome
def isTk (c:Cls)(ss:List SpA)(x:Int):Option Bool:=match ofS c ss x with
 | some k=>match ss[k]? with
  | some s=>(obj c s x).map λi=>s.tk.getD i false
  | none=>none
 | none=>none
def WbH (x y:SpA):Bool:=decide (x.many>y.many)||(x.many==y.many&&decide (x.st<y.st))
def Zv (ss:List SpA):Nat->Option Nat
 | 0=>none
 | k+1=>match ss[k]? with
  | some x=>if x.many<x.tk.length then(match Zv ss k with
   | some j=>match ss[j]? with
    | some y=>if WbH x y then some k else some j
    | none=>some k
   | none=>some k)else Zv ss k
  | none=>Zv ss k
def best (ss:List SpA):Option Nat:=Zv ss ss.length
def oneS (c:Cls)(ss:List SpA):Option (Nat×List SpA):=match best ss with
 | some k=>match ss[k]? with
  | some s=>match low s with
   | some i=>some (at_ c s i,ss.set k (s.put i true))
   | none=>none
  | none=>none
 | none=>none
def Q6 (c:Cls):Nat->List SpA->List Nat×List SpA
 | 0,ss=>([],ss)
 | m+1,ss=>match oneS c ss with
  | some (x,ss')=>let r:=Q6 c m ss';(x::r.1,r.2)
  | none=>([],ss)
def putE (c:Cls)(ss:List SpA)(xs:List Int):Int:=
 if xs.any (λx=>(isTk c ss x).isNone)then 8 else if xs.any (λx=>isTk c ss x==some false) || !decide xs.Nodup then 9 else 0
def put1 (c:Cls)(ss:List SpA)(x:Int):List SpA:=match ofS c ss x with
 | some k=>match ss[k]? with
  | some s=>match obj c s x with
   | some i=>ss.set k (s.put i false)
   | none=>ss
  | none=>ss
 | none=>ss
def sweep (ss:List SpA):List SpA:=ss.filter λs=>s.many != 0
def Z7 (ss:List SpA):List Nat:=(ss.filter λs=>s.many==0).map (·.st)
def Wb8 (c:Cls)(ss:List SpA)(x:Int):Option Nat:=match ofS c ss x with
 | some k=>match ss[k]? with
  | some s=>(idx c s x).map (at_ c s)
  | none=>none
 | none=>none
def addS (c:Cls)(ss:List SpA)(st:Nat):List SpA:=ss.takeWhile (λs=>s.st<st)++⟨st,List.replicate c.n false⟩::ss.dropWhile (λs=>s.st<st)
def GR (c:Cls)(ss:List SpA)(x:Nat):Int:=if ss.any (λs=>max s.st x-min s.st x<c.pages)then 9 else 0
def Kr (ss:List SpA):Nat:=(ss.map λs=>s.tk.length-s.many).sum
structure TrA where
 low:Nat
 bs:List (List Int)
 deriving DecidableEq
def setR {α:Type}(l:List α)(a b:Nat)(v:α):List α:=l.mapIdx λi x=>if a<=i/\i<b then v else x
theorem Ql {α:Type}(l:List α)(a b:Nat)(v:α):(setR l a b v).length=l.length:=by simp[setR]
theorem HL {α:Type}(l:List α)(a b:Nat)(v:α)(i:Nat):(setR l a b v)[i]?=(l[i]?).map λx=>if a<=i/\i<b then v else x:=by
 simp[setR,List.getElem?_mapIdx]
theorem Wm0 {α:Type}{l:List α}{a b:Nat}{v:α}(h1:a<=b)(h2:b<=l.length):setR l a b v=l.take a++List.replicate (b-a) v++l.drop b:=by
 apply zu;intro i;rw[HL];rcases zAN i a with h|h
 ·rw[zz,ze aE,zX,zB h];have:l[i]?=some l[i]:=gGe O;rw[this];simp;omega
 rcases zAN i b with h'|h'
 ·rw[zz,zm aE,ze aE];have:l[i]?=some l[i]:=gGe O;rw[this];simp[zAU,h,h'];omega
 ·rw[zm aE];have e:i-(l.take a++List.replicate (b-a) v).length=i-b:=by simp;omega
  rw[e,zn,show b+(i-b)=i by omega];cases l[i]?<;>simp;omega
def cntR (l:List Nat)(a b v:Nat):Nat:=((l.drop a).take (b-a)).count v
end Go.Ar
namespace Go.Bu
def full (S:Nat->Bool)(k q:Nat):Bool:=(List.range (2^k)).all λi=>S (q*2^k+i)
def can (S:Nat->Bool)(k q:Nat):Bool:=full S k q && !full S (k+1) (q/2)
theorem Hr {k q i:Nat}(hi:i<2^k):(q*2^k+i)/2^k=q:=by
 rw[Nat.add_comm,Nat.add_mul_div_right _ _ (zAG k),Nat.div_eq_of_lt hi,zG]
theorem GH {k q p:Nat}(h:p/2^k=q):p=q*2^k+p%2^k:=by
 rw[←h,Nat.mul_comm];exact(Nat.div_add_mod p (2^k)).symm
theorem Qc {k q p:Nat}:p/2^k=q↔q*2^k<=p/\p<q*2^k+2^k:=by
 have a:=zAG k;constructor
 ·intro h;have:=GH h;have b:=zDP p a;omega
 ·rintro⟨h1,h2⟩;have:p=q*2^k+(p-q*2^k):=by omega
  rw[this];exact Hr O
theorem YP {S:Nat->Bool}{k q:Nat}:full S k q=true↔∀p,p/2^k=q->S p=true:=by
 simp only[full,zAA,zU];constructor
 ·intro h p hp;have:=h (p%2^k) (zDP _ (zAG k))
  rwa [←GH hp]at this
 ·intro h i hi;exact h _ (Hr hi)
theorem ZM {S:Nat->Bool}{k q:Nat}:can S k q=true↔full S k q=true/\¬full S (k+1) (q/2)=true:=by
 simp[can]
theorem Wa4 {p k j:Nat}(h:k<=j):p/2^j=p/2^k/2^(j-k):=by
 rw[zDA,←Nat.pow_add]
 congr 2;omega
theorem Wdz {S:Nat->Bool}{k j q:Nat}(h:k<=j)(hf:full S j (q/2^(j-k))=true):full S k q=true:=by
 rw[YP]at hf ⊢;intro p hp;exact hf p (by rw[Wa4 h,hp])
theorem WiO {q k j:Nat}(h:k<j):q/2/2^(j-(k+1))=q/2^(j-k):=by
 rw[zDA]
 congr 1
 rw[←Nat.pow_succ']
 congr 1;omega
theorem QS {S:Nat->Bool}{k j q r p:Nat}(hk:can S k q=true)(hj:full S j r=true)(hp:p/2^k=q)(hr:p/2^j=r)(h:k<j):False:=by
 rw[ZM]at hk;refine hk.2 (Wdz (j:=j) O ?_);rw[WiO h,←hp,←Wa4 (zCS h),hr];exact hj
theorem HZ {S:Nat->Bool}{k j q r p:Nat}(hk:can S k q=true)(hj:can S j r=true)(hp:p/2^k=q)(hr:p/2^j=r):k=j/\q=r:=by
 rcases zCA k j with h|h|h
 ·exact(QS hk (ZM.1 hj).1 hp hr h).elim
 ·subst h;exact⟨rfl,hp.symm.trans hr⟩
 ·exact(QS hj (ZM.1 hk).1 hr hp h).elim
def Bounded (S:Nat->Bool)(n:Nat):Prop:=∀p,S p=true->p<n
theorem ZR {S:Nat->Bool}{n k q:Nat}(hb:Bounded S n)(h:full S k q=true):q*2^k+2^k<=n:=by
 rw[YP]at h;have a:=zAG k;have:=hb _ (h (q*2^k+(2^k-1)) (Hr O));omega
theorem Wie {S:Nat->Bool}{p:Nat}:full S 0 p=S p:=by simp[full]
theorem VS {S:Nat->Bool}{n p:Nat}(hb:Bounded S n)(hp:S p=true):∃k,can S k (p/2^k)=true:=by
 apply Classical.byContradiction;intro hno;have all:∀k,full S k (p/2^k)=true:=by
  intro k
  induction k with
  | zero=>simpa[Wie]using hp
  | succ k ih=>
   apply Classical.byContradiction;intro hn;refine hno ⟨k,ZM.2 ⟨ih,?_⟩⟩;rw[zDA,←zAV];exact hn
 have:=ZR hb (all n);have:=@Nat.lt_two_pow_self n;omega
theorem KW {S:Nat->Bool}{k q p:Nat}(h:can S k q=true)(hp:p/2^k=q):S p=true:=YP.1 (ZM.1 h).1 p hp
def del (S:Nat->Bool)(k q:Nat):Nat->Bool:=λp=>S p && !(p/2^k==q)
def ins (S:Nat->Bool)(k q:Nat):Nat->Bool:=λp=>S p||p/2^k==q
theorem VH {S:Nat->Bool}{k q p:Nat}:del S k q p=true↔S p=true/\p/2^k≠q:=by simp[del]
theorem VI {S:Nat->Bool}{k q p:Nat}:ins S k q p=true↔S p=true\/p/2^k=q:=by simp[ins]
theorem Ky (k q:Nat):(q*2^k)/2^k=q:=zFW _ (zAG k)
theorem Wef {S:Nat->Bool}{k q j r:Nat}(hc:can S k q=true):can (del S k q) j r=true↔can S j r=true/\¬(j=k/\r=q):=by
 constructor
 ·intro h;obtain⟨i,u⟩:=ZM.1 h;rw[YP]at i;have s:full S j r=true:=YP.2 λp b=>(VH.1 (i p b)).1;refine⟨ZM.2 ⟨s,λd=>u (YP.2 λp b=>?_)⟩,?_⟩
  ·refine VH.2 ⟨YP.1 d p b,λg=>?_⟩;rcases zAN k (j+1)with m|m
   ·exact QS hc d g b m
   ·-- the greater Zw lies in the block
    have a:=Ky j r;have x:=(VH.1 (i _ a)).2;apply x;rw[Wa4 (show j+1<=k by omega)];have e:r*2^j/2^(j+1)=r/2:=by
     rw[zAV,←zDA,a]
    rw[e,←b,←Wa4 (show j+1<=k by omega),g]
  ·rintro⟨rfl,rfl⟩;exact(VH.1 (i _ (Ky _ _))).2 (Ky _ _)
 ·rintro⟨h,hne⟩;obtain⟨i,u⟩:=ZM.1 h;refine ZM.2 ⟨YP.2 λp b=>VH.2 ⟨YP.1 i p b,λg=>hne ?_⟩,λd=>u (YP.2 λp b=>(VH.1 (YP.1 d p b)).1)⟩;obtain⟨m,w⟩:=HZ h hc b g;exact⟨m,w⟩
theorem Wcj {S:Nat->Bool}{k q j r:Nat}(hd:∀p,p/2^k=q->S p=false)(hup:¬full (ins S k q) (k+1) (q/2)=true) :
 can (ins S k q) j r=true↔can S j r=true\/(j=k/\r=q):=by
 have g:can (ins S k q) k q=true:=ZM.2 ⟨YP.2 λp d=>VI.2 (.inr d),hup⟩;constructor
 ·intro h;by_cases he:j=k/\r=q
  ·exact .inr he
  left;obtain⟨i,m⟩:=ZM.1 h;refine ZM.2 ⟨YP.2 λp d=>?_,λa=>m (YP.2 λp d=>VI.2 (.inl (YP.1 a p d)))⟩;rcases VI.1 (YP.1 i p d)with h1|h1
  ·exact h1
  ·exact(he (HZ h g d h1)).elim
 ·rintro(h|⟨rfl,rfl⟩)
  ·obtain⟨i,m⟩:=ZM.1 h;refine ZM.2 ⟨YP.2 λp d=>VI.2 (.inl (YP.1 i p d)),λa=>m (YP.2 λp d=>?_)⟩;rcases VI.1 (YP.1 a p d)with h1|h1
   ·exact h1
   ·rcases zAN k (j+1)with h2|h2
    ·refine(hup (Wdz (j:=j+1) O ?_)).elim;have e:q/2^(j+1-k)=r/2:=by rw[←h1,←Wa4 (show k<=j+1 by omega),d]
     rw[WiO h2,e];exact a
    ·have b:=Ky j r;have s:=YP.1 i _ b;have e:r*2^j/2^(j+1)=r/2:=by
      rw[zAV,←zDA,b]
     have:r*2^j/2^k=q:=by
      rw[Wa4 h2,e,←d,←Wa4 h2,h1]
     rw[hd _ this]at s;cases s
  ·exact g
def mate (q:Nat):Nat:=if q%2=0 then q+1 else q-1
theorem Wdj (q:Nat):mate q/2=q/2:=by unfold mate;split<;>omega
theorem Wm7 (q:Nat):mate q≠q:=by unfold mate;split<;>omega
theorem WlB {q r:Nat}(h:r/2=q/2):r=q\/r=mate q:=by unfold mate;split<;>omega
theorem Hv {k q p:Nat}:p/2^(k+1)=q/2↔p/2^k=q\/p/2^k=mate q:=by
 rw[zAV,←zDA];constructor
 ·intro h;exact WlB h
 ·rintro(h|h)<;>rw[h]
  exact Wdj q
theorem Wnb {T:Nat->Bool}{k q:Nat}(hd:∀p,p/2^k=q->T p=false)(hm:¬can T k (mate q)=true):¬full (ins T k q) (k+1) (q/2)=true:=by
 intro hup;have a:full T k (mate q)=true:=YP.2 λp b=>by
  rcases VI.1 (YP.1 hup p (Hv.2 (.inr b)))with h|h
  ·exact h
  ·exact(Wm7 q (b.symm.trans h)).elim
 have:full T (k+1) (mate q/2)=true:=Classical.byContradiction λh=>hm (ZM.2 ⟨a,h⟩);rw[Wdj]at this;have d:=YP.1 this (q*2^k) (Hv.2 (.inl (Ky k q)));rw[hd _ (Ky k q)]at d;cases d
def give (S:Nat->Bool)(a b:Nat):Nat->Bool:=λp=>S p||(decide (a<=p)&&decide (p<b))
def take (S:Nat->Bool)(a b:Nat):Nat->Bool:=λp=>S p && !(decide (a<=p)&&decide (p<b))
theorem Kl {S:Nat->Bool}{a b p:Nat}:give S a b p=true↔S p=true\/(a<=p/\p<b):=by simp[give]
theorem Kj {S:Nat->Bool}{a b p:Nat}:take S a b p=true↔S p=true/\¬(a<=p/\p<b):=by
 simp[take];intro _;omega
theorem WaM {S T:Nat->Bool}(h:∀p,S p=true↔T p=true):S=T:=by
 funext p
 have:=h p;cases hs:S p<;>cases ht:T p<;>simp_all
theorem WjO (S:Nat->Bool)(k q:Nat):ins S k q=give S (q*2^k) (q*2^k+2^k):=
 WaM λp=>by rw[VI,Kl,Qc]
theorem Whm {S:Nat->Bool}{a b c:Nat}(h1:a<=b)(h2:b<=c):give (give S a b) b c=give S a c:=
 WaM λp=>by simp only[Kl];cases S p<;>simp<;>omega
theorem WjT (S:Nat->Bool)(a:Nat):give S a a=S:=WaM λp=>by simp only[Kl];cases S p<;>simp<;>omega
theorem WkX (S:Nat->Bool)(a:Nat):take S a a=S:=WaM λp=>by simp only[Kj];cases S p<;>simp<;>omega
def cnt (n:Nat)(S:Nat->Bool):Nat:=(List.range n).countP S
theorem Wmw (k m:Nat)(f:Nat->Bool):(List.range (m*2^k)).countP (λp=>f (p/2^k))=2^k*(List.range m).countP f:=by
 induction m with
 | zero=>simp
 | succ m ih=>
  rw[Nat.succ_mul,List.range_add,zDQ,ih,List.countP_map,zAB,zDQ];have:((List.range (2^k)).countP ((λp=>f (p/2^k))∘λx=>m*2^k+x))=2^k*(if f m then 1 else 0):=by
   have e:∀x∈List.range (2^k),((λp=>f (p/2^k))∘λx=>m*2^k+x) x=f m:=by
    intro x a;simp only[Function.comp];rw[Hr (zU.1 a)]
   rw[zFX (q:=λ_=>f m) (λx a=>by rw[e x a])];cases f m<;>simp
  rw[this,Nat.mul_add];simp only[zCI,List.countP_nil,zG]
theorem Wl6 {n m:Nat}{S:Nat->Bool}(h:n<=m)(hb:∀p,S p=true->p<n):(List.range m).countP S=(List.range n).countP S:=by
 obtain⟨d,rfl⟩:=Nat.exists_eq_add_of_le h;rw[List.range_add,zDQ,List.countP_map];have:(List.range d).countP (S∘λx=>n+x)=0:=by
  rw[List.countP_eq_zero];intro x _ hx;have:n+x<n:=hb _ hx;omega
 omega
def many (n:Nat)(S:Nat->Bool)(k:Nat):Nat:=(List.range n).countP (can S k)
def sums (n:Nat)(S:Nat->Bool):Nat->Nat
 | 0=>0
 | k+1=>sums n S k+many n S k*2^k
theorem countP_add {α:Type}(l:List α)(f g h:α->Bool)(e:∀x∈l,(f x).toNat+(g x).toNat=(h x).toNat):l.countP f+l.countP g=l.countP h:=by
 induction l with
 | nil=>rfl
 | cons x l ih=>
  have b:=e x aA;have:=ih λy a=>e y (by simp[a]);simp only[zCI];cases hf:f x<;>cases hg:g x<;>cases hh:h x<;>simp[hf,hg,hh]at b ⊢ <;> omega
def WdQ (S:Nat->Bool)(K p:Nat):Bool:=(List.range K).any λk=>can S k (p/2^k)
theorem GD {n:Nat}{S:Nat->Bool}(hb:Bounded S n):∀K,sums n S K=(List.range n).countP (WdQ S K)
 | 0=>by
  simp only[sums]
  symm
  rw[List.countP_eq_zero];simp[WdQ]
 | K+1=>by
  rw[sums,GD hb K];have hm:many n S K*2^K=(List.range n).countP (λp=>can S K (p/2^K)):=by
   have a:=Wmw K n (can S K);have b:n<=n*2^K:=zFY _ (zAG K);rw[Wl6 b (λp g=>hb p (KW g rfl))]at a;rw[a,Nat.mul_comm];rfl
  rw[hm];apply countP_add;intro p _;have e:WdQ S (K+1) p=(WdQ S K p||can S K (p/2^K)):=by
   simp[WdQ,zAB,List.any_append]
  rw[e];cases a:WdQ S K p<;>cases b:can S K (p/2^K)<;>simp
  simp only[WdQ,zw,zU]at a;obtain⟨k,i,d⟩:=a;have:=HZ d b rfl rfl;omega
theorem WkO {n K:Nat}{S:Nat->Bool}(hb:Bounded S n)(hK:n<2^K):sums n S K=cnt n S:=by
 rw[GD hb];apply zFX;intro p _;simp only[WdQ,zw,zU];constructor
 ·rintro⟨k,_,a⟩;exact KW a rfl
 ·intro hp;obtain⟨k,a⟩:=VS hb hp;refine⟨k,?_,a⟩;have:=ZR hb (ZM.1 a).1;apply Classical.byContradiction;intro hk;have:2^K<=2^k:=zBP O O;omega
end Go.Bu
namespace Go.Vc
open Go
abbrev Hp:=Array Obj
abbrev _root_.aN:=Int->Hp->Prop
abbrev _root_.aO:=Bool->Hp->Prop
abbrev _root_.aP:=Hp->Prop
structure Sl where
 a:Option Addr
 len:Nat
 cap:Nat
structure Fv where
 f:Nat
 first:Array Value
 captured:Array Value
inductive CK where
 | i (k:IntKind)|b|p|s|m|str|fn|raw|ag (n:Nat)|ad
 deriving DecidableEq
abbrev _root_.bN:CK:=.i .i64
@[reducible] def ITup:Nat->Type
 | 0=>Unit
 | 1=>Int
 | n+2=>Int×ITup (n+1)
def ITup.vs:(n:Nat)->ITup n->List Value
 | 0,_=>[]
 | 1,x=>[.int .i64 x]
 | n+2,x=>.int .i64 x.1::ITup.vs (n+1) x.2
@[reducible] def CK.T:CK->Type
 | .i _=>Int
 | .b=>Bool
 | .p=>Option Addr
 | .s=>Sl
 | .m=>Option Nat
 | .str=>ByteArray
 | .fn=>Fv
 | .raw=>Value
 | .ag n=>ITup n
 | .ad=>Addr
def CK.v:(c:CK)->c.T->Value
 | .i k,y=>.int k y
 | .b,x=>.bool x
 | .p,y=>.pointer y
 | .s,y=>.slice y.a y.len y.cap
 | .m,y=>.map y
 | .str,x=>.string x
 | .fn,x=>.func (.func x.f) x.first x.captured
 | .raw,y=>y
 | .ag n,y=>.agg (ITup.vs n y).toArray
 | .ad,y=>.pointer (some y)
inductive SK where
 | one (c:CK)
 | agg (cs:List CK)
def SK.ks:SK->List CK
 | .one c=>[c]
 | .agg cs=>cs
def ksOf:List SK->List CK
 | []=>[]
 | s::ss=>s.ks++ksOf ss
@[reducible] def Fam:List CK->Type
 | []=>Hp->Prop
 | c::cs=>c.T->Fam cs
@[reducible] def FamN:List CK->Type
 | []=>Hp->Nat
 | c::cs=>c.T->FamN cs
def Sat:(ks:List CK)->Fam ks->List Value->Hp->Prop
 | [],R,[],h=>R h
 | c::cs,R,v::vs,h=>∃x:c.T,v=c.v x/\Sat cs (R x) vs h
 | _,_,_,_=>False
def Fam.le:(ks:List CK)->Fam ks->Fam ks->Prop
 | [],R,R'=>∀h,R h->R' h
 | c::cs,R,R'=>∀x:c.T,Fam.le cs (R x) (R' x)
def lam:(ks:List CK)->(List Value->Hp->Prop)->Fam ks
 | [],K=>K []
 | c::cs,K=>λx=>lam cs λvs=>K (c.v x::vs)
def unI:(n:Nat)->List Value->(ITup n->Prop)->Prop
 | 0,[],K=>K ()
 | 1,[.int .i64 x],K=>K x
 | n+2,.int .i64 x::vs,K=>unI (n+1) vs λy=>K (x,y)
 | _,_,_=>False
theorem WdU:∀{n:Nat} {vs:List Value} {K:ITup n->Prop},unI n vs K->∃x,vs=ITup.vs n x/\K x:=by
 intro n vs K h;unfold unI at h;split at h
 ·exact⟨(),rfl,h⟩
 ·exact⟨_,rfl,h⟩
 ·obtain⟨y,rfl,a⟩:=WdU h;exact⟨_,rfl,a⟩
 ·exact h.elim
def unv:(c:CK)->Value->(c.T->Prop)->Prop
 | .i k,.int k' n,K=>if k=k' then K n else False
 | .b,.bool x,K=>K x
 | .p,.pointer a,K=>K a
 | .s,.slice a l c,K=>K ⟨a,l,c⟩
 | .m,.map r,K=>K r
 | .str,.string s,K=>K s
 | .fn,.func (.func f) x y,K=>K ⟨f,x,y⟩
 | .raw,v,K=>K v
 | .ag n,.agg cs,K=>unI n cs.toList K
 | .ad,.pointer (some a),K=>K a
 | _,_,_=>False
def apF:(ks:List CK)->Fam ks->List Value->Hp->Prop
 | [],R,[],h=>R h
 | c::cs,R,v::vs,h=>unv c v λx=>apF cs (R x) vs h
 | _,_,_,_=>False
theorem Uk {c:CK}{v:Value}{K:c.T->Prop}(h:unv c v K):∃x,v=c.v x/\K x:=by
 cases c<;>cases v<;>simp only[unv]at h<;>try exact h.elim
 case i.int k k' n=>split at h<;>first|exact h.elim | (rename_i e;subst e;exact⟨n,rfl,h⟩)
 case fn.func f x y=>cases f<;>simp only[unv]at h<;>first|exact h.elim|exact⟨⟨_,x,y⟩,rfl,h⟩
 case b.bool x=>exact⟨x,rfl,h⟩
 case p.pointer a=>exact⟨a,rfl,h⟩
 case s.slice a l c=>exact⟨⟨a,l,c⟩,rfl,h⟩
 case m.map r=>exact⟨r,rfl,h⟩
 case str.string s=>exact⟨s,rfl,h⟩
 case ad.pointer p=>cases p<;>simp only[unv]at h<;>first|exact h.elim|exact⟨_,rfl,h⟩
 case ag.agg n cs=>obtain⟨x,e,d⟩:=WdU h;exact⟨x,by simp only[CK.v,←e],d⟩
 all_goals exact⟨_,rfl,h⟩
theorem WlV:∀(n:Nat) (x:ITup n) (K:ITup n->Prop),unI n (ITup.vs n x) K=K x
 | 0,_,_=>rfl
 | 1,_,_=>rfl
 | n+2,x,K=>WlV (n+1) x.2 _
theorem Wo1 (c:CK)(x:c.T)(K:c.T->Prop):unv c (c.v x) K=K x:=by
 cases c<;>simp[unv,CK.v]
 exact iff_of_eq (WlV _ _ _)
theorem WcG:∀{ks:List CK} {R:Fam ks} {vs:List Value} {h:Hp},apF ks R vs h->Sat ks R vs h
 | [],_,[],_,h=>h
 | _::_,_,_::_,_,h=>by
  obtain⟨x,e,hx⟩:=Uk h;exact⟨x,e,WcG hx⟩
 | [],_,_::_,_,h=>h.elim
 | _::_,_,[],_,h=>h.elim
theorem Sat.mono:∀{ks:List CK} {R R':Fam ks},Fam.le ks R R'->∀{vs:List Value} {h:Hp},Sat ks R vs h->Sat ks R' vs h
 | [],_,_,hl,[],_,h=>hl _ h
 | _::_,_,_,hl,_::_,_,⟨x,e,h⟩=>⟨x,e,Sat.mono (hl x) h⟩
 | [],_,_,_,_::_,_,h=>h.elim
 | _::_,_,_,_,[],_,h=>h.elim
theorem UU:∀{ks:List CK} {K:List Value->Hp->Prop} {vs:List Value} {h:Hp},Sat ks (lam ks K) vs h->K vs h
 | [],_,[],_,h=>h
 | _::_,K,v::vs,h,hs=>by
  obtain⟨x,rfl,h'⟩:=hs;exact UU (K:=λvs=>K (CK.v _ x::vs)) h'
 | [],_,_::_,_,h=>h.elim
 | _::_,_,[],_,h=>h.elim
abbrev Env:=Nat->Option Value
def Env.put (ρ:Env)(d:Nat)(v:Value):Env:=λi=>bif Nat.beq i d then some v else ρ i
def Env.putO (ρ:Env):Option Nat->Value->Env
 | some d,v=>ρ.put d v
 | none,_=>ρ
def Env.hide (ρ:Env)(ds:List Nat):Env:=λi=>bif ds.contains i then none else ρ i
def ev (ρ:Env):Operand->Option Value
 | .tmp t=>ρ t
 | .const v=>some v
 | .global g=>some (.pointer (some ⟨g,0,none⟩))
 | .func f=>some (.func (.func f) #[] #[])
def wv (o:Option Value)(K:Value->Prop):Prop:=match o with|some v=>K v|none=>False
def evs (ρ:Env):List Operand->Option (List Value)
 | []=>some []
 | o::os=>match ev ρ o,evs ρ os with|some v,some vs=>some (v::vs)|_,_=>none
def cell (h:Hp)(a:Addr):Option Value:=
 match h[a.block]? with
 | some (.cells c _ _)=>if a.spot.isSome then none else c[a.off]?
 | _=>none
def frz (h:Hp)(a:Addr):Bool:=
 match h[a.block]? with
 | some (.cells _ _ (lo,hi))=>lo<=a.off&&a.off<hi
 | _=>false
def setc (h:Hp)(a:Addr)(v:Value):Hp:=
 h.modify a.block fun
  | .cells c elem frozen=>.cells (if a.spot.isSome then c else c.setIfInBounds a.off v) elem frozen
  | o=>o
def LdI (k:IntKind)(a:Addr)(h:Hp)(K:Int->Prop):Prop:=∃n,cell h a=some (.int k n)/\K n
def LdB (a:Addr)(h:Hp)(K:Bool->Prop):Prop:=∃n,cell h a=some (.bool n)/\K n
def LdP (a:Addr)(h:Hp)(K:Option Addr->Prop):Prop:=∃n,cell h a=some (.pointer n)/\K n
def LdS (a:Addr)(h:Hp)(K:Sl->Prop):Prop:=∃n:Sl,cell h a=some (.slice n.a n.len n.cap)/\K n
def LdM (a:Addr)(h:Hp)(K:Option Nat->Prop):Prop:=∃n,cell h a=some (.map n)/\K n
def LdT (a:Addr)(h:Hp)(K:ByteArray->Prop):Prop:=∃n,cell h a=some (.string n)/\K n
def LdF (a:Addr)(h:Hp)(K:Fv->Prop):Prop:=∃n:Fv,cell h a=some (.func (.func n.f) n.first n.captured)/\K n
def LdR (a:Addr)(h:Hp)(K:Value->Prop):Prop:=∃n,cell h a=some n/\K n
def LdA (n:Nat)(a:Addr)(h:Hp)(K:ITup n->Prop):Prop:=∃x,cell h a=some (CK.v (.ag n) x)/\K x
def LdAd (a:Addr)(h:Hp)(K:Addr->Prop):Prop:=∃x,cell h a=some (.pointer (some x))/\K x
def Ld1:(c:CK)->Addr->Hp->(c.T->Prop)->Prop
 | .i k,a,h,K=>LdI k a h K
 | .b,a,h,K=>LdB a h K
 | .p,a,h,K=>LdP a h K
 | .s,a,h,K=>LdS a h K
 | .m,a,h,K=>LdM a h K
 | .str,a,h,K=>LdT a h K
 | .fn,a,h,K=>LdF a h K
 | .raw,a,h,K=>LdR a h K
 | .ag n,a,h,K=>LdA n a h K
 | .ad,a,h,K=>LdAd a h K
def LdN:List CK->Addr->Nat->Hp->(List Value->Prop)->Prop
 | [],_,_,_,K=>K []
 | c::cs,a,i,h,K=>Ld1 c (a.add i) h λx=>LdN cs a (i+1) h λvs=>K (c.v x::vs)
def AsB (v:Value)(t:TypeId)(vs zs:List Value)(b:Bool):Prop:=match b with
 | true=>v=.iface t (.agg vs.toArray)
 | false=>vs=zs/\(v=.nilIface\/∃t' u,v=.iface t' u/\t'≠t)
def Asr (v:Value)(t:TypeId)(zs:List Value):List CK->List Value->(List Value->Bool->Prop)->Prop
 | [],acc,K=>∃b:Bool,AsB v t acc zs b/\K acc b
 | c::cs,acc,K=>∃x:c.T,Asr v t zs cs (acc++[c.v x]) K
theorem Asr.out {v:Value}{t:TypeId}{zs:List Value}:∀{cs:List CK} {acc:List Value} {K:List Value->Bool->Prop},Asr v t zs cs acc K->∃vs b,AsB v t vs zs b/\K vs b
 | [],acc,K,⟨b,h1,h2⟩=>⟨acc,b,h1,h2⟩
 | c::cs,acc,K,⟨x,h⟩=>Asr.out h
def IsIf (v:Value):Prop:=v=.nilIface\/∃t u,v=.iface t u
def nilI:Value->Bool
 | .nilIface=>true
 | _=>false
def O1 (v:Value)(A:Prop):Prop:=match v with
 | .agg _=>False
 | .tuple _=>False
 | _=>A
def O1L:List Value->Prop->Prop
 | [],A=>A
 | v::vs,A=>O1 v (O1L vs A)
def NilP (p:Option Addr)(K:Addr->Prop):Prop:=∃a,p=some a/\K a
def Ar (k:IntKind)(e:Int)(K:Int->Prop):Prop:=K (k.wrap e)
def Nz (y:Int)(A:Prop):Prop:=y≠0/\A
def Nn (y:Int)(A:Prop):Prop:=0<=y/\A
def Ix (base:Option Addr)(len:Nat)(i:Int)(sz:Nat)(K:Addr->Prop):Prop:=∃a,base=some a/\0<=i/\i<(len:Int)/\K (a.add (i.toNat*sz))
def IxA (a:Addr)(len:Nat)(i:Int)(sz:Nat)(K:Addr->Prop):Prop:=0<=i/\i<(len:Int)/\K (a.add (i.toNat*sz))
def IxS (s:ByteArray)(i:Int)(K:Int->Prop):Prop:=∃b,0<=i/\s[i.toNat]?=some b/\K (b.toNat:Int)
def If (b:Bool)(A B:Prop):Prop:=match b with
 | true=>A
 | false=>B
theorem If.t {b:Bool}{A B:Prop}(h:If b A B)(e:b=true):A:=by subst e;exact h
theorem If.f {b:Bool}{A B:Prop}(h:If b A B)(e:b=false):B:=by subst e;exact h
theorem If.mk {b:Bool}{A B:Prop}(h1:b=true->A)(h2:b=false->B):If b A B:=by cases b;exact h2 rfl;exact h1 rfl
def Nw (o:Obj)(h:Hp)(K:Addr->Hp->Prop):Prop:=K ⟨h.size,0,none⟩ (h.push o)
def St1 (a:Addr)(v:Value)(h:Hp)(K:aP):Prop:=(cell h a).isSome=true/\frz h a=false/\K (setc h a v)
def StN (a:Addr)(h:Hp):List Value->Nat->(Hp->Prop)->Prop
 | [],_,K=>K h
 | v::vs,i,K=>St1 (a.add i) v h λh'=>StN a h' vs (i+1) K
def SlcL (s:Sl)(sz:Nat)(lo hi mx:Int)(K:Sl->Prop):Prop:=
 0<=lo/\lo<=hi/\hi<=mx/\mx<=(s.cap:Int)/\K ⟨if mx.toNat=lo.toNat then s.a else s.a.map (·.add (lo.toNat*sz)),hi.toNat-lo.toNat,mx.toNat-lo.toNat⟩
def MapL (h:Hp)(r:Nat)(k:IntKind)(c:CK)(l:List (Int×c.T)):Prop:=
 ∃es clk,h[r]?=some (.map es clk)/\es.toList.map (λe=>(e.key,e.val))=l.map (λx=>(Value.int k x.1,c.v x.2)) ∧
  (l.map (·.1)).Nodup/\(es.toList.map (·.born)).Pairwise (· < ·)/\∀e∈es.toList,e.born<clk
def MapO (h:Hp)(m:Option Nat)(k:IntKind)(c:CK)(l:List (Int×c.T)):Prop:=
 match m with
 | none=>l=[]
 | some r=>MapL h r k c l
def mget {α:Type}(l:List (Int×α))(n:Int):Option α:=(l.find? λx=>x.1==n).map (·.2)
def mset {α:Type}(l:List (Int×α))(n:Int)(v:α):List (Int×α):=
 if l.any (λx=>x.1==n)then l.map (λx=>if x.1==n then(n,v)else x)else l++[(n,v)]
def mdel {α:Type}(l:List (Int×α))(n:Int):List (Int×α):=l.filter λx=>!(x.1==n)
def QD (h h':Hp)(r:Nat):Prop:=h'.size=h.size/\∀b,b≠r->h'[b]?=h[b]?
def Lk (k:IntKind)(c:CK)(m:Option Nat)(n:Int)(h:Hp)(K:Option c.T->Prop):Prop:=∃l,MapO h m k c l/\K (mget l n)
def MLen (k:IntKind)(c:CK)(m:Option Nat)(h:Hp)(K:Int->Prop):Prop:=∃l,MapO h m k c l/\K (l.length:Int)
def MSet (k:IntKind)(c:CK)(m:Option Nat)(n:Int)(x:c.T)(h:Hp)(K:aP):Prop:=
 ∃r l,m=some r/\MapL h r k c l/\∀h',QD h h' r->MapL h' r k c (mset l n x)->K h'
def MDel (k:IntKind)(c:CK)(m:Option Nat)(n:Int)(h:Hp)(K:aP):Prop:=
 ∃l,MapO h m k c l/\∀h',(∀r,m=some r->QD h h' r)->(m=none->h'=h)->MapO h' m k c (mdel l n)->K h'
def It (h:Hp)(r:Nat)(k:IntKind)(c:CK)(m:Option Nat)(l todo:List (Int×c.T))(cur:Option (Int×c.T)):Prop:=
 match m with
 | none=>l=[]/\todo=[]/\cur=none/\∃s q y,h[r]?=some (.mapIter none s q y)
 | some b=>∃es clk seen,h[r]?=some (.mapIter (some b) clk seen clk)/\h[b]?=some (.map es clk)/\es.toList.map (λe=>(e.key,e.val))=l.map (λx=>(Value.int k x.1,c.v x.2)) ∧
  (l.map (·.1)).Nodup/\(es.toList.map (·.born)).Pairwise (· < ·)/\(∀e∈es.toList,e.born<clk) ∧
  (es.toList.filter λe=>!seen.contains e.born).map (λe=>(e.key,e.val))=todo.map (λx=>(Value.int k x.1,c.v x.2)) ∧
  (∀x,cur=some x->∃e∈es.toList,seen.back?=some e.born/\e.key=.int k x.1/\e.val=c.v x.2)
def Rng (k:IntKind)(c:CK)(m:Option Nat)(h:Hp)(K:Addr->Hp->Prop):Prop:=
 ∃l,MapO h m k c l/\∀h',h'.size=h.size+1->(∀b,b<h.size->h'[b]?=h[b]?)->It h' h.size k c m l l none->K ⟨h.size,0,none⟩ h'
def Nxt (k:IntKind)(c:CK)(a:Addr)(h:Hp)(A:Prop)(B:Int->c.T->Hp->Prop):Prop:=
 a.off=0/\∃m l todo cur,It h a.block k c m l todo cur/\(todo=[]->A) ∧
  ∀n x,(n,x)∈todo->∀h',QD h h' a.block->It h' a.block k c m l (todo.filter λy=>!(y.1==n)) (some (n,x))->B n x h'
def Ent (k:IntKind)(c:CK)(a:Addr)(h:Hp)(K:Int->c.T->Prop):Prop:=
 a.off=0/\∃m l todo n x,It h a.block k c m l todo (some (n,x))/\K n x
def one1:Value->Bool
 | .agg _=>false
 | .tuple _=>false
 | _=>true
def Rd (h:Hp)(a:Option Addr)(xs:List Value):Prop:=
 match a with
 | none=>xs=[]
 | some a=>∀j v,xs[j]?=some v->cell h (a.add j)=some v
def BtS (s:Sl)(h:Hp)(K:ByteArray->Prop):Prop:=∃bs:List Int,bs.length=s.len/\Rd h s.a (bs.map (.int .u8))/\K ⟨(bs.map λn=>UInt8.ofNat n.toNat).toArray⟩
def App (s:Sl)(sz bytes:Nat)(e:Nat)(zs:List Value)(x:Sl)(h:Hp)(K:Sl->Hp->Prop):Prop:=
 ∃xs ys,xs.length=s.len*sz/\ys.length=x.len*sz/\Rd h s.a xs/\Rd h x.a ys/\(∀v∈ys,one1 v=true)/\(s.len+x.len)*bytes<=2^46/\s.len+x.len<=2^62 ∧
  (s.len+x.len<=s.cap->match s.a with
   | some a=>StN (a.add (s.len*sz)) h ys 0 λh'=>K ⟨s.a,s.len+x.len,s.cap⟩ h'
   | none=>K ⟨none,s.len+x.len,s.cap⟩ h) ∧
  (¬s.len+x.len<=s.cap->∀c,s.len+x.len<=c->Nw (.cells (xs++ys++(List.replicate (c-(s.len+x.len)) zs).flatten).toArray e) h λa h'=>K ⟨some a,s.len+x.len,c⟩ h')
def AppZ (s:Sl)(sz bytes:Nat)(e:Nat)(zs:List Value)(n:Int)(h:Hp)(K:Sl->Hp->Prop):Prop:=
 0<=n/\∃xs,xs.length=s.len*sz/\Rd h s.a xs/\(∀v∈zs,one1 v=true)/\(s.len+n.toNat)*bytes<=2^46/\s.len+n.toNat<=2^62/\(n.toNat:Int)*bytes<=2^46 ∧
  (s.len+n.toNat<=s.cap->match s.a with
   | some a=>StN (a.add (s.len*sz)) h (List.replicate n.toNat zs).flatten 0 λh'=>K ⟨s.a,s.len+n.toNat,s.cap⟩ h'
   | none=>K ⟨none,s.len+n.toNat,s.cap⟩ h) ∧
  (¬s.len+n.toNat<=s.cap->∀c,s.len+n.toNat<=c->Nw (.cells (xs++(List.replicate n.toNat zs).flatten++(List.replicate (c-(s.len+n.toNat)) zs).flatten).toArray e) h λa h'=>K ⟨some a,s.len+n.toNat,c⟩ h')
def Cpy (d:Sl)(sz:Nat)(s:Sl)(h:Hp)(K:aN):Prop:=
 ∃xs,xs.length=min s.len d.len*sz/\Rd h s.a xs/\(∀v∈xs,one1 v=true)/\match d.a with
  | some a=>StN a h xs 0 λh'=>K ((min s.len d.len:Nat):Int) h'
  | none=>K ((min s.len d.len:Nat):Int) h
def Clr (s:Sl)(zs:List Value)(h:Hp)(K:aP):Prop:=
 (∀v∈zs,one1 v=true)/\match s.a with
  | some a=>StN a h (List.replicate s.len zs).flatten 0 K
  | none=>K h
def Mk (n c:Int)(bytes:Nat)(e:Nat)(zs:List Value)(h:Hp)(K:Sl->Hp->Prop):Prop:=
 0<=n/\n<=c/\(bytes:Int)*c<=2^46/\c<2^62/\Nw (.cells (List.replicate c.toNat zs).flatten.toArray e) h λa h'=>K ⟨some a,n.toNat,c.toNat⟩ h'
def ZP (w w':World):Prop:=w'.os=w.os/\w'.tape=w.tape/\w'.output=w.output/\w.heap.size<=w'.heap.size
def Wbh:List SK->List Value->List Value
 | [],_=>[]
 | .one _::ss,v::vs=>v::Wbh ss vs
 | .one _::ss,[]=>undef::Wbh ss []
 | .agg cs::ss,vs=>.agg (vs.take cs.length).toArray::Wbh ss (vs.drop cs.length)
def pack (rs:List SK)(vs:List Value):Value:=
 match Wbh rs vs with
 | [v]=>v
 | l=>.tuple l.toArray
def We (P:Program)(f:Nat)(args:Array Value)(rs:List SK)(h:Hp)(R:Fam (ksOf rs)):Prop:=
 ∀w:World,w.heap=h->Calls P f args w λe w'=>ZP w w'/\∃vs,e=.returned (pack rs vs)/\Sat (ksOf rs) R vs w'.heap
def InvK (P:Program)(v:Value)(name:String)(args:List Value)(rs:List SK)(h:Hp)(R:Fam (ksOf rs)):Prop:=
 ∃t u f,v=.iface t u/\(∀w,(method (P.types.size+Made.depth) t u name).run P w=.ok (f,u) w)/\(∀xs w,(callFunc f xs).run P w=.ok (.enter f xs) w)/\We P f (u::args).toArray rs h R
def WoT (P:Program)(fv:Fv)(args:List Value)(rs:List SK)(h:Hp)(R:Fam (ksOf rs)):Prop:=
 We P fv.f (fv.first++args.toArray++fv.captured) rs h R
abbrev SK.I:SK:=.one bN
abbrev _root_.Go.Value.I (x:Int):Value:=.int .i64 x
def WnZ:TypeDesc->Option CK
 | .bool=>some .b
 | .int k=>some (.i k)
 | .string=>some .str
 | .pointer _=>some .p
 | .slice _=>some .s
 | .map _ _=>some .m
 | .func _ _ _=>some .fn
 | .interface _=>some .raw
 | _=>none
mutual
def Wnv (P:Program):Nat->TypeId->Option (List CK)
 | 0,_=>none
 | n+1,t=>
  match P.underlying t with
  | some (.struct fs)=>WoE P n fs.toList
  | some (.array m e)=>(Wnv P n e).map λl=>(List.replicate m l).flatten
  | some d=>(WnZ d).map λc=>[c]
  | none=>none
def WoE (P:Program):Nat->List Field->Option (List CK)
 | 0,_=>none
 | _+1,[]=>some []
 | n+1,f::fs=>match Wnv P n f.type,WoE P n fs with
  | some a,some b=>some (a++b)
  | _,_=>none
end
def ekD:SK->SK
 | .agg cs=>bif cs.all (· == .i .i64)then .one (.ag cs.length)else .agg cs
 | s=>s
def Uy:TypeDesc->Bool
 | .struct _ | .array _ _=>true
 | _=>false
def skOf (P:Program)(t:TypeId):Option SK:=
 match P.underlying t with
 | some d=>bif Uy d then(Wnv P 24 t).map .agg else(WnZ d).map .one
 | none=>none
def ekOf (P:Program)(t:TypeId):Option SK:=(skOf P t).map ekD
def chk (b:Bool)(A:Prop):Prop:=match b with|true=>A|false=>False
theorem WH {b:Bool}{A:Prop}:chk b A↔b=true/\A:=by cases b<;>simp[chk]
def arK (op:BinOp)(k:IntKind)(x y:Int)(K:Value->Prop):Prop:=
 match op with
 | .add=>Ar k (x+y) λz=>K (.int k z)
 | .sub=>Ar k (x-y) λz=>K (.int k z)
 | .mul=>Ar k (x*y) λz=>K (.int k z)
 | .quo=>Nz y (Ar k (x.tdiv y) λz=>K (.int k z))
 | .rem=>Nz y (K (.int k (x.tmod y)))
 | .and=>K (.int k (bits .and k x y))
 | .or=>K (.int k (bits .or k x y))
 | .xor=>K (.int k (bits .xor k x y))
 | .andNot=>K (.int k (bits .andNot k x y))
 | .shl=>Nn y (Ar k (x*2^(min y.toNat k.bits)) λz=>K (.int k z))
 | .shr=>Nn y (K (.int k (x.fdiv (2^(min y.toNat k.bits)))))
 | .eql=>K (.bool (x==y))
 | .neq=>K (.bool (x != y))
 | .lss=>K (.bool (decide (x<y)))
 | .leq=>K (.bool (decide (x<=y)))
 | .gtr=>K (.bool (decide (x>y)))
 | .geq=>K (.bool (decide (x≥y)))
def eqK (op:BinOp)(b:Bool)(K:Value->Prop):Prop:=
 match op with
 | .eql=>K (.bool b)
 | .neq=>K (.bool (!b))
 | _=>False
def nilK (P:Program)(op:BinOp)(t:TypeId)(x y:Value)(K:Value->Prop):Prop:=
 match P.underlying t,x,y with
 | some (.pointer _),.pointer p,.pointer none=>eqK op p.isNone K
 | some (.slice _),.slice p _ _,.slice none 0 0=>eqK op p.isNone K
 | some (.map _ _),.map p,.map none=>eqK op p.isNone K
 | some (.interface _),x,.nilIface=>IsIf x/\eqK op (nilI x) K
 | _,_,_=>False
def binK (P:Program)(op:BinOp)(t:TypeId)(x y:Value)(K:Value->Prop):Prop:=
 match x,y with
 | .int k a,.int k' b=>if k=k' then arK op k a b K else(match op with | .shl=>arK .shl k a b K | .shr=>arK .shr k a b K|_=>False)
 | .bool a,.bool b=>match P.underlying t with
  | some .bool=>eqK op (a==b) K
  | _=>False
 | .string a,.string b=>match op with
  | .eql=>K (.bool (a.toList==b.toList))
  | .neq=>K (.bool (!(a.toList==b.toList)))
  | _=>False
 | _,_=>False
def eqFs (P:Program)(xs ys:List Value):List Field->Option Bool
 | []=>some true
 | f::fs=>bif f.name == "_" then none else
  match P.underlying f.type,xs[f.offset]?,ys[f.offset]?,eqFs P xs ys fs with
  | some (.int _),some (.int k a),some (.int k' b),some r=>if k=k' then some ((a==b)&&r)else none
  | some .bool,some (.bool a),some (.bool b),some r=>some ((a==b)&&r)
  | _,_,_,_=>none
def eqCs (P:Program)(e:TypeId)(xs ys:List Value):List Nat->Option Bool
 | []=>some true
 | i::is=>match P.underlying e,xs[i]?,ys[i]?,eqCs P e xs ys is with
  | some (.int _),some (.int k a),some (.int k' b),some r=>if k=k' then some ((a==b)&&r)else none
  | some (.pointer _),some (.pointer p),some (.pointer none),some r=>some (p.isNone&&r)
  | _,_,_,_=>none
def aggK (P:Program)(op:BinOp)(t:TypeId)(xs ys:List Value)(K:Value->Prop):Prop:=
 match P.underlying t with
 | some (.struct fs)=>chk (!P.stoodInHeld t && !P.eqGuardType P.depth t) (match eqFs P xs ys fs.toList with
  | some b=>eqK op b K
  | none=>False)
 | some (.array n e)=>chk (!P.eqGuardType P.depth t&&((P.info? e).isSome&&P.cellsOf e==1)) (match eqCs P e xs ys (List.range n)with
  | some b=>eqK op b K
  | none=>False)
 | _=>False
def WdK:Operand->Bool
 | .const (.pointer none)=>true
 | .const (.slice none 0 0)=>true
 | .const (.map none)=>true
 | .const .nilIface=>true
 | _=>false
def Wh8 (P:Program)(op:BinOp)(t:TypeId)(y:Operand)(vx vy:Value)(K:Value->Prop):Prop:=
 bif WdK y then nilK P op t vx vy K else match vx,vy with
 | .agg xs,.agg ys=>aggK P op t xs.toList ys.toList K
 | vx,vy=>binK P op t vx vy K
def fldK (P:Program)(s f:Nat)(K:Field->Prop):Prop:=
 match P.underlying s with
 | some (.struct fs)=>match fs[f]? with
  | some fd=>K fd
  | none=>False
 | _=>False
def lenK (P:Program)(t:TypeId)(x:Value)(h:Hp)(K:Value->Prop):Prop:=
 match P.underlying t,x with
 | some (.slice _),.slice _ n _=>K (.int .i64 (n:Int))
 | some .string,.string s=>K (.int .i64 (s.size:Int))
 | some (.array n _),_=>K (.int .i64 (n:Int))
 | some (.map kt et),.map m=>match P.underlying kt,ekOf P et with
  | some (.int k),some (.one c)=>MLen k c m h λz=>K (.int .i64 z)
  | _,_=>False
 | _,_=>False
def lkK (P:Program)(t:TypeId)(x i:Value)(ok:Bool)(h:Hp)(K:Value->Prop):Prop:=
 match P.underlying t,x,i with
 | some (.map kt et),.map m,.int k n=>match P.underlying kt,ekOf P et,P.info? et with
  | some (.int k'),some (.one c),some ti=>match ti.zero with
   | some z=>if k=k' then unv c z λz=>Lk k c m n h λo=>K (bif ok then .tuple #[c.v (o.getD z),.bool o.isSome]else c.v (o.getD z))else False
   | none=>False
  | _,_,_=>False
 | _,_,_=>False
def mmK (isMax:Bool):Value->List Value->(Value->Prop)->Prop
 | v,[],K=>K v
 | .int k x,.int _ y::vs,K=>mmK isMax (.int k (bif isMax then(if y>x then y else x)else(if y<x then y else x))) vs K
 | _,_,_=>False
def WdP (Zw:Nat->Option (Nat×Nat))(cells:List Value):List (Nat×Value)->Option (List Value)
 | []=>some cells
 | (i,v)::rest=>
  match Zw i with
  | none=>none
  | some (off,size)=>
   if v.cells.size≠size\/off+v.cells.size>cells.length then none
   else WdP Zw (cells.take off++v.cells.toList++cells.drop (off+size)) rest
def GB (ρ:Env):List (Nat×Operand)->Option (List (Nat×Value))
 | []=>some []
 | (i,o)::os=>match ev ρ o,GB ρ os with|some v,some vs=>some ((i,v)::vs)|_,_=>none
def plF (P:Program)(fs:Array Field)(i:Nat):Option (Nat×Nat):=match fs[i]? with
 | some f=>match P.info? f.type with
  | some ti=>some (f.offset,ti.size)
  | none=>none
 | none=>none
def WcX (P:Program)(t:TypeId):Bool:=match P.underlying t with
 | some (.interface _)=>true
 | _=>false
def rawF (P:Program)(fs:Array Field)(i:Nat):Bool:=match fs[i]? with
 | some f=>WcX P f.type
 | none=>false
def WiG (raw:Nat->Bool):List (Nat×Value)->List (Nat×Value)
 | []=>[]
 | (i,v)::ps=>(i,bif raw i then .agg #[v]else v)::WiG raw ps
def ifsR (raw:Nat->Bool):List (Nat×Value)->Prop->Prop
 | [],A=>A
 | (i,v)::ps,A=>bif raw i then IsIf v/\ifsR raw ps A else ifsR raw ps A
def bldK (P:Program)(t:TypeId)(ps:List (Nat×Value))(K:Value->Prop):Prop:=
 match P.info? t,P.underlying t with
 | some ti,some (.struct fs)=>match ti.zero with
  | some z=>ifsR (rawF P fs) ps (match WdP (plF P fs) z.cells.toList (WiG (rawF P fs) ps)with
   | some cs=>chk (fs.toList.all λf=>(P.info? f.type).isSome) (K (.agg cs.toArray))
   | none=>False)
  | none=>False
 | some ti,some (.array _ e)=>match ti.zero,P.info? e with
  | some z,some te=>match WdP (λi=>some (i*te.size,te.size)) z.cells.toList ps with
   | some cs=>K (.agg cs.toArray)
   | none=>False
  | _,_=>False
 | _,_=>False
def Wgi (P:Program)(t:TypeId)(cs:List Value)(off:Nat)(K:Value->Prop):Prop:=
 match P.underlying t,P.info? t with
 | some d,some ti=>bif Uy d then K (.agg ((cs.drop off).take ti.size).toArray)else wv (cs[off]?) K
 | _,_=>False
def slcK (P:Program)(t:TypeId)(x:Value)(lo hi mx:Option Value)(K:Value->Prop):Prop:=
 match P.underlying t,x with
 | some (.slice e),.slice a n c=>match P.info? e with
  | some ti=>
   let loV:Option Int:=match lo with|none=>some 0|some (.int .i64 z)=>some z|_=>none
   let hiV:Option Int:=match hi with|none=>some n|some (.int .i64 z)=>some z|_=>none
   let mxV:Option Int:=match mx,hi with|none,_=>some c|some (.int .i64 z),some _=>some z|_,_=>none
   match loV,hiV,mxV with
   | some l,some h,some m=>SlcL ⟨a,n,c⟩ ti.size l h m λs=>K (.slice s.a s.len s.cap)
   | _,_,_=>False
  | none=>False
 | _,_=>False
def evO (ρ:Env):Option Operand->Option (Option Value)
 | none=>some none
 | some o=>(ev ρ o).map some
def qK (P:Program)(o:Op)(ρ:Env)(h:Hp)(K:Value->Prop):Prop:=
 match o with
 | .move x=>wv (ev ρ x) K
 | .assign x=>wv (ev ρ x) K
 | .pick c x y=>wv (ev ρ c) λv=>match v with
  | .bool true=>wv (ev ρ x) K
  | .bool false=>wv (ev ρ y) K
  | _=>False
 | .load t a=>wv (ev ρ a) λv=>match v,skOf P t with
  | .pointer (some a),some (.one c)=>chk (P.info? t).isSome (Ld1 c a h λx=>K (c.v x))
  | .pointer (some a),some (.agg cs)=>chk (P.cellsOf t==cs.length) (chk (P.info? t).isSome (LdN cs a 0 h λvs=>K (.agg vs.toArray)))
  | _,_=>False
 | .nilCheck x=>wv (ev ρ x) λv=>match v with
  | .pointer p=>NilP p λa=>K (.pointer (some a))
  | .func (.func f) a b=>K (.func (.func f) a b)
  | _=>False
 | .binOp op t x y _=>wv (ev ρ x) λvx=>wv (ev ρ y) λvy=>Wh8 P op t y vx vy K
 | .unOp op _ x=>wv (ev ρ x) λv=>match op,v with
  | .not,.bool b=>K (.bool (!b))
  | .neg,.int k n=>Ar k (0-n) λz=>K (.int k z)
  | _,_=>False
 | .convert s d x=>wv (ev ρ x) λv=>match P.underlying s,P.underlying d,v with
  | some _,some (.int k),.int _ n=>Ar k n λz=>K (.int k z)
  | some _,some .string,.string x=>K (.string x)
  | some (.slice e),some .string,.slice a n c=>(match P.underlying e with|some (.int .u8)=>BtS ⟨a,n,c⟩ h λs=>K (.string s)|_=>False)
  | _,_,_=>False
 | .fieldAddr s x f=>wv (ev ρ x) λv=>fldK P s f λfd=>match v with
  | .pointer (some a)=>chk (P.cellsOf fd.type != 0) (K (.pointer (some (a.add fd.offset))))
  | _=>False
 | .field s x f=>wv (ev ρ x) λv=>fldK P s f λfd=>match v with
  | .agg cs=>Wgi P fd.type cs.toList fd.offset K
  | _=>False
 | .indexAddr t x i=>wv (ev ρ x) λvx=>wv (ev ρ i) λvi=>match P.underlying t,vx,vi with
  | some (.slice e),.slice b n _,.int _ i=>chk (P.info? e).isSome (Ix b n i (P.cellsOf e) λa=>K (.pointer (some a)))
  | some (.array n e),.pointer (some a),.int _ i=>chk (P.info? e).isSome (IxA a n i (P.cellsOf e) λa=>K (.pointer (some a)))
  | _,_,_=>False
 | .index t x i=>wv (ev ρ x) λvx=>wv (ev ρ i) λvi=>match P.underlying t,vx,vi with
  | some .string,.string s,.int _ i=>IxS s i λz=>K (.int .u8 z)
  | _,_,_=>False
 | .lookup t x i ok=>wv (ev ρ x) λvx=>wv (ev ρ i) λvi=>lkK P t vx vi ok h K
 | .extract t i=>wv (ev ρ t) λv=>match v with
  | .tuple vs=>wv (vs.toList[i]?) K
  | _=>False
 | .makeFunc fn a b=>match evs ρ a.toList,evs ρ b.toList with
  | some va,some vb=>K (.func fn va.toArray vb.toArray)
  | _,_=>False
 | .build t ps=>match GB ρ ps.toList with
  | some vs=>bldK P t vs K
  | none=>False
 | .slice t x lo hi mx=>wv (ev ρ x) λv=>match evO ρ lo,evO ρ hi,evO ρ mx with
  | some lo,some hi,some mx=>slcK P t v lo hi mx K
  | _,_,_=>False
 | .makeInterface t x=>wv (ev ρ x) λv=>chk (P.concrete t) (K (.iface t v))
 | .typeAssert x _ t true=>wv (ev ρ x) λv=>match P.underlying t,P.info? t,skOf P t with
  | some (.struct _),some ti,some (.agg cs)=>match ti.zero with
   | some (.agg zs)=>Asr v t zs.toList cs [] λvs b=>K (.tuple #[.agg vs.toArray,.bool b])
   | _=>False
  | _,_,_=>False
 | .call c=>match c.callee,evs ρ c.args.toList,c.argTypes.toList with
  | .builtin .len,some [x],[t]=>lenK P t x h K
  | .builtin .cap,some [.slice _ _ n],[t]=>(match P.underlying t with|some (.slice _)=>K (.int .i64 (n:Int))|_=>False)
  | .builtin .max,some (x::xs),_=>mmK true x xs K
  | .builtin .min,some (x::xs),_=>mmK false x xs K
  | _,_,_=>False
 | _=>False
def isQ:Op->Bool
 | .move _ | .assign _ | .pick .. | .load _ _ | .nilCheck _ | .binOp .. | .unOp .. | .convert .. | .fieldAddr .. | .field .. | .indexAddr .. | .index .. | .lookup .. | .extract .. | .makeFunc .. | .build .. | .slice .. | .makeInterface .. => true
 | .typeAssert _ _ _ ok=>ok
 | .call c=>match c.callee with | .builtin .len | .builtin .cap | .builtin .max | .builtin .min=>true|_=>false
 | _=>false
theorem VX {P:Program}{t:Nat}{i:TypeInfo}(hi:P.info? t=some i)(w:World):(typeInfo t).run P w=.ok i w:=by
 simp[typeInfo,hi]
theorem QO {P:Program}{t:Nat}(h:(P.info? t).isSome=true)(w:World):(sizeOf t).run P w=.ok (P.cellsOf t) w:=by
 obtain⟨i,a⟩:=zCB.1 h;simp[sizeOf,typeInfo,a,Program.cellsOf]
theorem VB {P:Program}{t:Nat}{i:TypeInfo}{z:Value}(hi:P.info? t=some i)(hz:i.zero=some z)(w:World):(zeroValue t).run P w=.ok z w:=by
 simp[zeroValue,typeInfo,hi,hz]
theorem Whg {P:Program}{op:BinOp}{t:Nat}{k:IntKind}{x y:Int}{K:Value->Prop}(h:arK op k x y K)(w:World) :
 ∃v,(binOp op t (.int k x) (.int k y)).run P w=.ok v w/\K v:=by
 cases op<;>simp only[arK,Ar,Nz,Nn]at h
 all_goals first
  | (refine⟨_,?_,h⟩;simp[binOp,Op.intArith,Op.intCmp,Op.intBits,bits];done)
  | (obtain⟨a,b⟩:=h;refine⟨_,?_,b⟩;simp[binOp,Op.intDiv,a];done)
  | (obtain⟨a,b⟩:=h;refine⟨_,?_,b⟩;simp[binOp,Op.shift,Int.not_lt.2 a];done)
theorem Up {P:Program}{op:BinOp}{t:Nat}{x y:Value}{b:Bool}{K:Value->Prop}(h:eqK op b K)(w:World)
 (hb:∀op,(op=.eql\/op=.neq)->binOp op t x y=if op=.eql then(do pure (.bool (←Op.equal t x y)))else(do pure (.bool (!(←Op.equal t x y)))))
 (he:(Op.equal t x y).run P w=.ok b w):∃v,(binOp op t x y).run P w=.ok v w/\K v:=by
 cases op<;>simp only[eqK]at h
 case eql=>exact⟨_,by rw[hb .eql (.inl rfl)];simp[he],h⟩
 case neq=>exact⟨_,by rw[hb .neq (.inr rfl)];simp[he],h⟩
theorem Wfw {P:Program}{t e:Nat}(hu:P.underlying t=some (.pointer e))(p:Option Addr)(d:Nat)(w:World):(Op.equalIn (d+1) t (.pointer p) (.pointer none)).run P w=.ok p.isNone w:=by
 cases p<;>simp[Op.equalIn,run_underlying hu]
theorem WgX {P:Program}{t e:Nat}(hu:P.underlying t=some (.slice e))(p:Option Addr)(n c d:Nat)(w:World):(Op.equalIn (d+1) t (.slice p n c) (.slice none 0 0)).run P w=.ok p.isNone w:=by
 cases p<;>simp[Op.equalIn,run_underlying hu]
theorem Wkb {P:Program}{t k e:Nat}(hu:P.underlying t=some (.map k e))(p:Option Nat)(d:Nat)(w:World):(Op.equalIn (d+1) t (.map p) (.map none)).run P w=.ok p.isNone w:=by
 cases p<;>simp[Op.equalIn,run_underlying hu]
theorem Wjr {P:Program}{t:Nat}(hu:P.underlying t=some .bool)(a b:Bool)(d:Nat)(w:World):(Op.equalIn (d+1) t (.bool a) (.bool b)).run P w=.ok (a==b) w:=by
 simp[Op.equalIn,run_underlying hu]
theorem Wmo {P:Program}{w:World}{s:Sl}{K:ByteArray->Prop}(h:BtS s w.heap K):∃b,(Conv.bytesToString (.slice s.a s.len s.cap)).run P w=.ok (.string b) w/\K b:=by
 obtain⟨g,p,d,i⟩:=h;refine⟨_,?_,i⟩;cases hs:s.a with
 | none=>
  rw[hs]at d;simp only[Rd,zFA]at d;subst d;simp[Conv.bytesToString];rfl
 | some a=>
  rw[hs]at d;have e:(loadCells a s.len).run P w=.ok (g.map (Value.int .u8)).toArray w:=by
   rw[←p];simpa using run_loadCells_list (P:=P) (w:=w) a (g.map (Value.int .u8)) (λj v m=>d j v m)
  have key:∀(l:List Int) (acc:ByteArray),List.foldl (λb a=>b.push (UInt8.ofNat a.toNat)) acc l=⟨acc.data++(l.map λn=>UInt8.ofNat n.toNat).toArray⟩:=by
   intro l
   induction l with
   | nil=>intro acc;simp
   | cons n l ih=>intro acc;rw[zAI,ih];congr 1;apply Array.ext';simp[ByteArray.push]
  simp only[Conv.bytesToString,Sem.run_bind,e,Result.andThen_ok];simp[key]
theorem WgY {P:Program}{t:Nat}{ms:Array (String×TypeId)}(hu:P.underlying t=some (.interface ms)){v:Value}(hv:IsIf v)(d:Nat)(w:World):(Op.equalIn (d+1) t v .nilIface).run P w=.ok (nilI v) w:=by
 rcases hv with rfl|⟨t',u,rfl⟩
 ·simp[Op.equalIn,run_underlying hu,nilI]
 ·simp[Op.equalIn,run_underlying hu,nilI]
theorem WmR {P:Program}{xt t:TypeId}{ti:TypeInfo}{fs:Array Field}{v:Value}{vs zs:List Value}{b:Bool}(hu:P.underlying t=some (.struct fs))(hi:P.info? t=some ti)(hz:ti.zero=some (.agg zs.toArray))
 (h:AsB v t vs zs b) (w:World) :
 (Instr.typeAssert v xt t true).run P w=.ok (.tuple #[.agg vs.toArray,.bool b]) w:=by
 have a:=VB hi hz w;cases b with
 | true=>
  simp only[AsB]at h;subst h;simp[Instr.typeAssert,run_underlying hu]
 | false=>
  simp only[AsB]at h;obtain⟨rfl,h⟩:=h;rcases h with rfl|⟨t',u,rfl,hne⟩
  ·simp[Instr.typeAssert,run_underlying hu,a]
  ·simp[Instr.typeAssert,run_underlying hu,hne,a]
theorem Wgu {P:Program}{op:BinOp}{t:Nat}{x y:Value}{K:Value->Prop}(h:nilK P op t x y K)(w:World) :
 ∃v,(binOp op t x y).run P w=.ok v w/\K v:=by
 unfold nilK at h;split at h
 case h_1 e p hu=>
  refine Up h w ?_ ?_
  ·rintro op (rfl|rfl)<;>simp[binOp]
  ·exact Wfw hu p 9999 w
 case h_2 e p _ _ hu=>
  refine Up h w ?_ ?_
  ·rintro op (rfl|rfl)<;>simp[binOp]
  ·exact WgX hu p _ _ 9999 w
 case h_3 e e' p hu=>
  refine Up h w ?_ ?_
  ·rintro op (rfl|rfl)<;>simp[binOp]
  ·exact Wkb hu p 9999 w
 case h_4 ms hu=>
  obtain⟨a,h⟩:=h;refine Up h w ?_ ?_
  ·rcases a with rfl|⟨t',u,rfl⟩<;>rintro op (rfl|rfl)<;>simp[binOp]
  ·exact WgY hu a 9999 w
 ·exact h.elim
theorem WgQ {P:Program}{op:BinOp}{t:Nat}{x y:Value}{K:Value->Prop}(h:binK P op t x y K)(w:World) :
 ∃v,(binOp op t x y).run P w=.ok v w/\K v:=by
 unfold binK at h;split at h
 case h_1 k a k' b=>
  split at h
  ·rename_i e;subst e;exact Whg h w
  ·cases op<;>simp only at h
   case shl=>simp only[arK,Ar,Nn]at h;obtain⟨d,g⟩:=h;exact⟨_,by simp[binOp,Op.shift,Int.not_lt.2 d],g⟩
   case shr=>simp only[arK,Ar,Nn]at h;obtain⟨d,g⟩:=h;exact⟨_,by simp[binOp,Op.shift,Int.not_lt.2 d],g⟩
 case h_2 a b=>
  split at h
  ·rename_i hu;refine Up h w ?_ ?_
   ·rintro op (rfl|rfl)<;>simp[binOp]
   ·exact Wjr hu a b 9999 w
  ·exact h.elim
 case h_3 a b=>
  cases op<;>simp only at h
  ·exact⟨_,rfl,h⟩
  ·exact⟨_,rfl,h⟩
 ·exact h.elim
theorem WaP {c:CK}{a:Addr}{h:Hp}{K:c.T->Prop}(hl:Ld1 c a h K):∃x,cell h a=some (c.v x)/\K x:=by
 cases c<;>exact hl
theorem WcD {P:Program}{w:World}{a:Addr}{v:Value}(h:cell w.heap a=some v):(load a).run P w=.ok v w:=by
 have:w.cell? a=some v:=h;simp[this]
theorem Wa5 {P:Program}{w:World}:∀{cs:List CK} {a:Addr} {i:Nat} {K:List Value->Prop},LdN cs a i w.heap K →
 ∃vs,vs.length=cs.length/\K vs/\∀acc,(loadCellsFrom a i cs.length acc).run P w=.ok (acc++vs.toArray) w
 | [],a,i,K,h=>⟨[],rfl,h,λacc=>by simp[loadCellsFrom]⟩
 | c::cs,a,i,K,h=>by
  obtain⟨x,hx,hK⟩:=WaP h;obtain⟨vs,d,b,e⟩:=Wa5 (P:=P) hK;refine⟨c.v x::vs,by simp[d],b,λacc=>?_⟩;simp only[zP,loadCellsFrom,Sem.run_bind,WcD hx,Result.andThen_ok,e]
  congr 1
  apply Array.ext';simp
theorem KF {P:Program}{t:Nat}{d:TypeDesc}(h:P.underlying t=some d)(w:World):(isAgg t).run P w=.ok (Uy d) w:=by
 simp only[isAgg,Sem.run_bind,run_underlying h,Result.andThen_ok];cases d<;>rfl
theorem WfY {P:Program}{t:Nat}{c:CK}(h:skOf P t=some (.one c)):∃d,P.underlying t=some d/\Uy d=false:=by
 unfold skOf at h;split at h
 ·rename_i d hd;refine⟨d,hd,?_⟩;cases e:Uy d
  ·rfl
  ·rw[e]at h;simp at h
 ·cases h
theorem Wfu {P:Program}{t:Nat}{c:List CK}(h:skOf P t=some (.agg c)):∃d,P.underlying t=some d/\Uy d=true:=by
 unfold skOf at h;split at h
 ·rename_i d hd;refine⟨d,hd,?_⟩;cases e:Uy d
  ·rw[e]at h;simp at h
  ·rfl
 ·cases h
theorem Wgf {P:Program}{t ty:Nat}{x:Value}{K:Value->Prop}{w:World}(h:lenK P t x w.heap K) :
 ∃v,(Builtin.len_ #[t] ty #[x]).run P w=.ok v w/\K v:=by
 unfold lenK at h;split at h
 case h_1 e a n c hu=>exact⟨_,by simp[Builtin.len_,run_underlying hu,goInt],h⟩
 case h_2 s hu=>exact⟨_,by simp[Builtin.len_,run_underlying hu,goInt],h⟩
 case h_3 n e y hu=>exact⟨_,by simp[Builtin.len_,run_underlying hu,goInt],h⟩
 case h_4 kt et m hu=>
  split at h
  case h_1 k c hk hs=>
   obtain⟨l,d,g⟩:=h;cases m with
   | none=>simp only[MapO]at d;subst d;exact⟨_,by simp[Builtin.len_,run_underlying hu,goInt],g⟩
   | some r=>
    obtain⟨i,p,j,u,_⟩:=d;have b:i.size=l.length:=by simpa using congrArg List.length u
    refine⟨_,?_,g⟩;simp[Builtin.len_,run_underlying hu,goInt,getObj,Sem.run,j,b]
  ·exact h.elim
 ·exact h.elim
theorem Wa1 {P:Program}{w:World}:∀{vs:List Value} {v:Value} {b:Bool} {K:Value->Prop},mmK b v vs K →
 ∃z,(vs.foldlM (if b then Builtin.max2 else Builtin.min2) v).run P w=.ok z w/\K z
 | [],v,b,K,h=>⟨v,by simp,by simpa[mmK]using h⟩
 | u::vs,v,b,K,h=>by
  cases v<;>cases u<;>simp only[mmK]at h<;>try exact h.elim
  case int.int k x k' y=>
   obtain⟨z,hz,hK⟩:=Wa1 h;refine⟨z,?_,hK⟩;cases b
   ·simpa[Builtin.min2]using hz
   ·simpa[Builtin.max2]using hz
theorem Z2 {ρ:Env}{a:Act}(hf:∀x v,ev ρ x=some v->a.eval x=v):∀{os:List Operand} {vs:List Value},evs ρ os=some vs->os.map a.eval=vs
 | [],vs,h=>by simp[evs]at h;simp[h]
 | o::os,vs,h=>by
  simp only[evs]at h;split at h
  ·rename_i v vs' h1 h2;cases h;simp[hf _ _ h1,Z2 hf h2]
  ·cases h
theorem VZ {ρ:Env}{a:Act}(hf:∀x v,ev ρ x=some v->a.eval x=v):∀{os:List (Nat×Operand)} {vs:List (Nat×Value)},GB ρ os=some vs->os.map (λ(i,x)=>(i,a.eval x))=vs
 | [],vs,h=>by simp[GB]at h;simp[h]
 | (i,o)::os,vs,h=>by
  simp only[GB]at h;split at h
  ·rename_i v vs' h1 h2;cases h;simp[hf _ _ h1,VZ hf h2]
  ·cases h
theorem GN {k:IntKind}{n:Int}{c:CK}:∀(es:List MapEntry) (l:List (Int×c.T)) (i:Nat),
 es.map (λe=>(e.key,e.val))=l.map (λx=>(Value.int k x.1,c.v x.2)) →
 Instr.findNow (.int k) (.int k n) es i=some (match l.findIdx? (λx=>x.1==n)with|some j=>some (i+j,match l[j]? with|some x=>c.v x.2|none=>undef)|none=>none)
 | [],l,i,h=>by
  cases l with
  | nil=>simp[Instr.findNow]
  | cons x l=>simp at h
 | e::es,[],i,h=>by simp at h
 | e::es,x::l,i,h=>by
  simp only[zJ,List.cons.injEq,Prod.mk.injEq]at h;obtain⟨⟨h1,h2⟩,h3⟩:=h;have d:=GN (n:=n) es l (i+1) h3;simp only[Instr.findNow,h1,Instr.sameNow,zS];by_cases hx:n=x.1
  ·have a:(n==x.1)=true:=by simpa using hx
   have b:(x.1==n)=true:=by simpa using hx.symm
   simp[zEJ,a,b,h2]
  ·have a:(n==x.1)=false:=by simpa using hx
   have b:(x.1==n)=false:=by simpa using λh=>hx h.symm
   simp only[a,d,zEJ,b];cases List.findIdx? (λx=>x.1==n) l with
   | none=>simp
   | some j=>simp;omega
theorem Kq {P:Program}{kt:Nat}{k:IntKind}(hk:P.underlying kt=some (.int k)){n:Int}{c:CK}{es:List MapEntry}{l:List (Int×c.T)}
 (he:es.map (λe=>(e.key,e.val))=l.map (λx=>(Value.int k x.1,c.v x.2))) (w:World) :
 (Instr.findKey kt (.int k n) es).run P w=.ok (match l.findIdx? (λx=>x.1==n)with|some j=>some (j,match l[j]? with|some x=>c.v x.2|none=>undef)|none=>none) w:=by
 simp[Instr.findKey,run_underlying hk,GN es l 0 he]
theorem WcS {P:Program}{kt:Nat}{k:IntKind}(hk:P.underlying kt=some (.int k))(b:Bool)(n:Int)(d:Nat)(w:World) :
 (Instr.checkKey b (d+1) kt (.int k n)).run P w=.ok () w:=by
 simp[Instr.checkKey,run_underlying hk]
theorem QM {P:Program}{kt:Nat}{k:IntKind}(hk:P.underlying kt=some (.int k))(b:Bool)(n:Int)(w:World) :
 (Instr.checkKey b 10000 kt (.int k n)).run P w=.ok () w:=WcS hk b n 9999 w
theorem WdO {α:Type}(l:List (Int×α))(n:Int):mget l n=(l.findIdx? (λx=>x.1==n)).bind λj=>(l[j]?).map (·.2):=by
 induction l with
 | nil=>rfl
 | cons x l ih=>
  simp only[mget,zDR,zEJ]at *;cases h:x.1==n
  ·simp only[ih];cases List.findIdx? (λx=>x.1==n) l<;>simp
  ·simp
theorem Uj {α:Type}{l:List (Int×α)}{n:Int}{j:Nat}(h:l.findIdx? (λx=>x.1==n)=some j):∃x,l[j]?=some x/\x.1=n:=by
 rw[zBQ]at h;obtain⟨b,a,_⟩:=h;exact⟨l[j],by simp[b],by simpa using a⟩
theorem Wi9 {P:Program}{t:Nat}{x i:Value}{ok:Bool}{K:Value->Prop}{w:World}(h:lkK P t x i ok w.heap K) :
 ∃v,(Instr.lookup t x i ok).run P w=.ok v w/\K v:=by
 unfold lkK at h;split at h
 case h_2=>exact h.elim
 rename_i kt et m k n hu;split at h
 case h_2=>exact h.elim
 rename_i k' c ti hk hs hi;split at h
 case h_2=>exact h.elim
 rename_i z hz;split at h
 case isFalse=>exact h.elim
 rename_i e;subst e;obtain⟨A,a,l,b,d⟩:=Uk h;refine⟨_,?_,d⟩;cases m with
 | none=>
  simp only[MapO]at b;subst b;simp only[Instr.lookup,Sem.run_bind,run_underlying hu,Result.andThen_ok,Sem.run_pure,QM hk,Kq (c:=c) (l:=[]) hk (rfl:List.map _ (#[]:Array MapEntry).toList=_),List.findIdx?_nil,VB hi hz];cases ok<;>simp[mget,a]
 | some r=>
  obtain⟨B,p,g,u,_⟩:=b;simp only[Instr.lookup,Sem.run_bind,run_underlying hu,Result.andThen_ok,Sem.run_pure,QM hk,getObj,Sem.run,g,Kq hk u,WdO];cases hf:l.findIdx? (λx=>x.1==n)with
  | none=>cases ok<;>simp[VB hi hz,a]
  | some j=>
   obtain⟨y,s,_⟩:=Uj hf;cases ok<;>simp[s]
theorem WdR (off:Nat):∀(vs:List Value) (k:Nat) (cs:Array Value),off+k+vs.length<=cs.size →
 ((vs.zipIdx k).foldl (λcs (c,j)=>cs.setIfInBounds (off+j) c) cs).toList=cs.toList.take (off+k)++vs++cs.toList.drop (off+k+vs.length)
 | [],k,cs,h=>by simp
 | v::vs,k,cs,h=>by
  simp only[List.zipIdx_cons,zAI];rw[WdR off vs (k+1) _ (by simp only[Array.size_setIfInBounds,zP]at *;omega)];simp only[zP]at h;have hlt:off+k<cs.toList.length:=by simp;omega
  simp only[Array.toList_setIfInBounds,zP];apply zu;intro m;simp only[List.getElem?_append,zO,zBR,zK,zX,zBH,zn,List.getElem?_cons,zP]
  grind
theorem UF (Zw:Nat->Option (Nat×Nat)):∀(ps:List (Nat×Value)) (cells:List Value) (cs:List Value),WdP Zw cells ps=some cs->Instr.fill Zw cells.toArray ps=some cs.toArray
 | [],cells,cs,h=>by simp[WdP]at h;simp[Instr.fill,h]
 | (i,v)::rest,cells,cs,h=>by
  simp only[WdP]at h;simp only[Instr.fill];cases hp:Zw i with
  | none=>rw[hp]at h;cases h
  | some os=>
   obtain⟨off,size⟩:=os;rw[hp]at h;simp only at h ⊢;split at h
   ·cases h
   ·rename_i hc;simp only[not_or,Decidable.not_not,Nat.not_lt]at hc;obtain⟨a,b⟩:=hc;rw[zA (by simp[a];omega)];have:=WdR off v.cells.toList 0 cells.toArray aE;have e:(v.cells.zipIdx.foldl (λcs (c,j)=>cs.setIfInBounds (off+j) c) cells.toArray)=(cells.take off++v.cells.toList++cells.drop (off+size)).toArray:=by
     apply Array.ext';rw[←Array.foldl_toList,Array.toList_zipIdx,this];simp[a]
    rw[e];exact UF Zw rest _ _ h
theorem Wa3 {P:Program}{w:World}:∀(fs:List Field),(fs.all λf=>(P.info? f.type).isSome)=true →
 (fs.mapM λf=>(do pure (f.offset,←sizeOf f.type):Sem (Nat×Nat))).run P w=.ok (fs.map λf=>(f.offset,P.cellsOf f.type)) w
 | [],_=>by simp
 | f::fs,h=>by
  simp only[zDS,zF]at h;have ih:=Wa3 (P:=P) (w:=w) fs h.2;simp only[List.mapM_cons,Sem.run_bind,QO h.1,Result.andThen_ok,Sem.run_pure,ih,zJ]
theorem Wcy {raw:Nat->Bool}:∀{ps:List (Nat×Value)} {A:Prop},ifsR raw ps A->A/\∀Zw cells,Instr.fill Zw cells (WiG raw ps)=Instr.fill Zw cells ps
 | [],A,h=>⟨h,λ_ _=>rfl⟩
 | (i,v)::ps,A,h=>by
  simp only[ifsR]at h;cases hr:raw i
  ·rw[hr]at h;obtain⟨hA,ih⟩:=Wcy h;exact⟨hA,λZw cells=>by simp only[WiG,Instr.fill,ih,hr,cond_false]⟩
  ·rw[hr]at h;simp only[cond_true]at h;obtain⟨hA,ih⟩:=Wcy h.2;have e:(Value.agg #[v]).cells=v.cells:=by
    rcases h.1 with rfl|⟨t,u,rfl⟩<;>rfl
   exact⟨hA,λZw cells=>by simp only[WiG,Instr.fill,ih,hr,cond_true,e]⟩
theorem Wg4 {P:Program}{t:Nat}{ps:Array (Nat×Value)}{K:Value->Prop}{w:World}(h:bldK P t ps.toList K) :
 ∃v,(Instr.build t ps).run P w=.ok v w/\K v:=by
 unfold bldK at h;split at h
 case h_1 p fs hi hu=>
  split at h
  case h_2=>exact h.elim
  rename_i z hz;obtain⟨h,g⟩:=Wcy h;split at h
  case h_2=>exact h.elim
  rename_i cs hf;rw[WH]at h;obtain⟨a,r⟩:=h;refine⟨_,?_,r⟩;have u:=Wa3 (P:=P) (w:=w) fs.toList a;have d:(fs.mapM λf=>(do pure (f.offset,←sizeOf f.type):Sem (Nat×Nat))).run P w=.ok (fs.map λf=>(f.offset,P.cellsOf f.type)) w:=by
   rw[Array.mapM_eq_mapM_toList];simp only[Sem.run_map,u,Result.andThen_ok]
   congr 1
   apply Array.ext';simp
  have m:(λi=>(fs.map λf=>(f.offset,P.cellsOf f.type))[i]?)=plF P fs:=by
   funext i
   simp only[plF,Array.getElem?_map];cases hfi:fs[i]? with
   | none=>simp
   | some f=>
    have b:f∈fs.toList:=by
     have:=zFZ hfi;simpa using this
    have:=zAA.1 a f b;obtain⟨p,j⟩:=zCB.1 this;simp[j,Program.cellsOf]
  have:=UF _ _ _ _ hf;rw[g]at this;simp only[Instr.build,Sem.run_bind,VB hi hz,Result.andThen_ok,run_underlying hu,d,m];have e:z.cells.toList.toArray=z.cells:=by simp
  rw[e]at this;simp[this]
 case h_2 p n e hi hu=>
  split at h
  case h_2=>exact h.elim
  rename_i z te hz hte;split at h
  case h_2=>exact h.elim
  rename_i cs hf;refine⟨_,?_,h⟩;have:=UF _ _ _ _ hf;have s:z.cells.toList.toArray=z.cells:=by simp
  rw[s]at this;have x:(sizeOf e).run P w=.ok te.size w:=by simp[sizeOf,VX hte]
  simp only[Instr.build,Sem.run_bind,VB hi hz,Result.andThen_ok,run_underlying hu,x];simp[this]
 ·exact h.elim
theorem Wq {o:Option Value}{K:Value->Prop}(h:wv o K):∃v,o=some v/\K v:=by
 cases o with
 | none=>exact h.elim
 | some v=>exact⟨v,rfl,h⟩
theorem Wec {P:Program}{t off:Nat}{cs:Array Value}{K:Value->Prop}{w:World}(h:Wgi P t cs.toList off K) :
 ∃v,(part t cs off).run P w=.ok v w/\K v:=by
 unfold Wgi at h;split at h
 case h_2=>exact h.elim
 rename_i d ti hu hi;cases hd:Uy d
 ·rw[hd]at h;obtain⟨v,b,a⟩:=Wq h;refine⟨v,?_,a⟩;have:cs[off]?=some v:=by simpa using b
  simp[part,KF hu,hd,this]
 ·rw[hd]at h;refine⟨_,?_,h⟩;simp only[part,Sem.run_bind,KF hu,hd,Result.andThen_ok,sizeOf,VX hi,zS,Sem.run_pure]
  congr 2
  apply Array.ext';simp
theorem Kd {P:Program}{w:World}{z:Int}{y:Nat}{code:BoundsCode}(h0:0<=z)(h1:z<=y):(Instr.sliceBound (.int .i64 z) y code).run P w=.ok z.toNat w:=by
 simp[Instr.sliceBound,asIntOf,h0,h1]
theorem Wfe {o:Option Value}{d l:Int}(h:(match o with|none=>some d|some (.int .i64 z)=>some z|_=>none)=some l):(o=none/\l=d)\/o=some (.int .i64 l):=by
 split at h
 ·simp at h;exact .inl ⟨rfl,h.symm⟩
 ·simp at h;subst h;exact .inr rfl
 ·cases h
theorem Wgw {P:Program}{t:Nat}{x:Value}{lo hi mx:Option Value}{K:Value->Prop}{w:World}(h:slcK P t x lo hi mx K) :
 ∃v,(Instr.sliceAt t x lo hi mx).run P w=.ok v w/\K v:=by
 unfold slcK at h;split at h
 case h_2=>exact h.elim
 rename_i e a n c hu;split at h
 case h_2=>exact h.elim
 rename_i ti hi';simp only at h;split at h
 case h_2=>exact h.elim
 rename_i l hh m hlo hhi hmx;obtain⟨r,A,u,i,g⟩:=h;refine⟨_,?_,g⟩;simp only at i;have b:(sizeOf e).run P w=.ok ti.size w:=by simp[sizeOf,VX hi']
 have j:(Instr.sliceBounds true n c lo hi mx).run P w=.ok (l.toNat,hh.toNat,m.toNat) w:=by
  have s:(mx=none/\m=c)\/(mx=some (.int .i64 m)/\hi≠none):=by
   split at hmx
   ·simp at hmx;exact .inl ⟨rfl,hmx.symm⟩
   ·simp at hmx;subst hmx;exact .inr ⟨rfl,by simp⟩
   ·cases hmx
  have p:=Wfe hlo;have d:=Wfe hhi;clear hlo hhi hmx;rcases s with⟨rfl,rfl⟩|⟨rfl,hne⟩<;>rcases d with⟨rfl,rfl⟩|rfl
  case inr.inl=>exact absurd rfl hne
  all_goals rcases p with⟨rfl,rfl⟩|rfl
  ·simp[Instr.sliceBounds]
  ·have:=Kd (P:=P) (w:=w) (z:=l) (y:=n) (code:=.sliceB) r O;simp[Instr.sliceBounds,this]
  ·have:=Kd (P:=P) (w:=w) (z:=hh) (y:=c) (code:=.sliceAcap) O O;simp[Instr.sliceBounds,this]
  ·have:=Kd (P:=P) (w:=w) (z:=hh) (y:=c) (code:=.sliceAcap) O O;have:=Kd (P:=P) (w:=w) (z:=l) (y:=hh.toNat) (code:=.sliceB) O O;simp[Instr.sliceBounds, *]
  ·have:=Kd (P:=P) (w:=w) (z:=m) (y:=c) (code:=.slice3Acap) O O;have:=Kd (P:=P) (w:=w) (z:=hh) (y:=m.toNat) (code:=.slice3B) O O;simp[Instr.sliceBounds, *]
  ·have:=Kd (P:=P) (w:=w) (z:=m) (y:=c) (code:=.slice3Acap) O O;have:=Kd (P:=P) (w:=w) (z:=hh) (y:=m.toNat) (code:=.slice3B) O O;have:=Kd (P:=P) (w:=w) (z:=l) (y:=hh.toNat) (code:=.slice3C) O O;simp[Instr.sliceBounds, *]
 simp only[Instr.sliceAt,Instr.slice,Sem.run_bind,run_underlying hu,Result.andThen_ok,j,b,Sem.run_pure]
theorem We3 {P:Program}{op:BinOp}{t:Nat}{x y:Operand}{a b:Value}(w:World)(h:(∀cs,a≠.agg cs)/\a≠.nilIface):(eqGuard op t x y a b).run P w=.ok () w:=by
 unfold eqGuard;cases op<;>simp
 all_goals (cases a<;>first|rfl | (simp at h))
theorem Wj4 {P:Program}{op:BinOp}{t:Nat}{x y:Value}{K:Value->Prop}(h:binK P op t x y K):(∀cs,x≠.agg cs)/\x≠.nilIface:=by
 unfold binK at h;split at h<;>first|exact absurd h id | (constructor<;>simp)
theorem Wky {P:Program}{op:BinOp}{t:Nat}{x y:Value}{K:Value->Prop}(h:nilK P op t x y K):∀cs,x≠.agg cs:=by
 unfold nilK at h;split at h
 case h_4=>rcases h.1 with rfl|⟨t',u,rfl⟩<;>simp
 all_goals first|exact absurd h id|simp
theorem Wdp {P:Program}{op:BinOp}{t:Nat}{x:Operand}{c:Value}{a b:Value}(w:World)(h:∀cs,a≠.agg cs):(eqGuard op t x (.const c) a b).run P w=.ok () w:=by
 unfold eqGuard;cases op<;>simp
 all_goals (cases a<;>first|rfl|exact absurd rfl (h _) | (cases b<;>simp))
theorem Wgm {y:Operand}(h:WdK y=true):∃c,y=.const c:=by
 unfold WdK at h;split at h<;>first|exact⟨_,rfl⟩|cases h
theorem Wah {P:Program}{s f:Nat}{K:Field->Prop}(h:fldK P s f K):∃fs fd,P.underlying s=some (.struct fs)/\fs[f]?=some fd/\K fd:=by
 unfold fldK at h;split at h
 ·split at h
  ·exact⟨_,_,by assumption,by assumption,h⟩
  ·exact h.elim
 ·exact h.elim
theorem Wds {P:Program}{t:Nat}(h:P.cellsOf t≠0):(P.info? t).isSome=true:=by
 unfold Program.cellsOf at h;cases hi:P.info? t with
 | none=>rw[hi]at h;simp at h
 | some i=>rfl
theorem WaC {ρ:Env}{a:Act}(hf:∀x v,ev ρ x=some v->a.eval x=v){o:Option Operand}{v:Option Value}(h:evO ρ o=some v):o.map a.eval=v:=by
 cases o with
 | none=>simp[evO]at h;simp[h]
 | some o=>
  simp only[evO,zCJ]at h;obtain⟨u,b,rfl⟩:=h;simp[hf _ _ b]
theorem Vw {P:Program}{t:Nat}{d:TypeDesc}{cs:Array Value}{off:Nat}{v:Value}{w:World}(hd:P.underlying t=some d)(hag:Uy d=false)(h:cs.toList[off]?=some v):(part t cs off).run P w=.ok v w:=by
 have a:cs[off]?=some v:=by simpa using h
 simp[part,KF hd,hag,a]
theorem Wcc {P:Program}{xs ys:Array Value}(d:Nat):∀(fs:List Field) (b:Bool),eqFs P xs.toList ys.toList fs=some b->∀w,(Op.eqFields (d+1) xs ys fs).run P w=.ok b w
 | [],b,h,w=>by simp[eqFs]at h;subst h;simp[Op.eqFields]
 | f::fs,b,h,w=>by
  simp only[eqFs]at h;cases hn:f.name == "_"
  ·rw[hn]at h;simp only[cond_false]at h;have hne:f.name ≠ "_" := by simpa using hn
   split at h
   ·rename_i k0 k a k' b' r hu hx hy hr;split at h
    case isFalse=>cases h
    rename_i e;subst e;simp only[Option.some.injEq]at h;subst h;have ih:=Wcc (d:=d) fs r hr w;simp only[Op.eqFields,hne,ne_eq,not_false_eq_true,zS,Sem.run_bind,Vw hu rfl hx,Vw hu rfl hy,Result.andThen_ok,run_equalIn_int w d f.type k k0 a b' hu];cases hab:a==b'<;>simp[ih]
   ·rename_i a b' r hu hx hy hr;simp only[Option.some.injEq]at h;subst h;have ih:=Wcc (d:=d) fs r hr w;simp only[Op.eqFields,hne,ne_eq,not_false_eq_true,zS,Sem.run_bind,Vw hu rfl hx,Vw hu rfl hy,Result.andThen_ok,run_equalIn_bool' w d f.type a b' hu];cases hab:a==b'<;>simp[ih]
   ·cases h
  ·rw[hn]at h;cases h
theorem WcM {P:Program}{e:TypeId}(hC:P.cellsOf e=1){xs ys:Array Value}(d:Nat):∀(is:List Nat) (b:Bool),eqCs P e xs.toList ys.toList is=some b->∀w,(Op.eqItems (d+1) e (P.cellsOf e) xs ys is).run P w=.ok b w
 | [],b,h,w=>by simp[eqCs]at h;subst h;simp[Op.eqItems]
 | i::is,b,h,w=>by
  simp only[eqCs]at h;split at h
  ·rename_i k0 k a k' b' r hu hx hy hr;split at h
   case isFalse=>cases h
   rename_i e';subst e';simp only[Option.some.injEq]at h;subst h;have ih:=WcM hC d is r hr w;simp only[Op.eqItems,hC,zBI,Sem.run_bind,Vw hu rfl hx,Vw hu rfl hy,Result.andThen_ok,run_equalIn_int w d e k k0 a b' hu];rw[hC]at ih;cases hab:a==b'<;>simp[ih]
  ·rename_i t0 p r hu hx hy hr;simp only[Option.some.injEq]at h;subst h;have ih:=WcM hC d is r hr w;simp only[Op.eqItems,hC,zBI,Sem.run_bind,Vw hu rfl hx,Vw hu rfl hy,Result.andThen_ok,Wfw hu p d w];rw[hC]at ih;cases hab:p.isNone<;>simp[ih]
  ·cases h
theorem Wgs {P:Program}{op:BinOp}{t:Nat}{xs ys:Array Value}{K:Value->Prop}(h:aggK P op t xs.toList ys.toList K)(x y:Operand)(w:World) :
 ∃v,(do eqGuard op t x y (.agg xs) (.agg ys);binOp op t (.agg xs) (.agg ys):Sem Value).run P w=.ok v w/\K v:=by
 have fin:∀b:Bool,(Op.equalIn 10000 t (.agg xs) (.agg ys)).run P w=.ok b w->P.eqGuardType P.depth t=false->eqK op b K →
  ∃v,(do eqGuard op t x y (.agg xs) (.agg ys);binOp op t (.agg xs) (.agg ys):Sem Value).run P w=.ok v w/\K v:=by
  intro b a hgt h;have j:=run_eqGuard_agg (P:=P) w op t x y xs ys hgt;cases op<;>simp only[eqK]at h
  ·exact⟨_,by simp only[Sem.run_bind,j,Result.andThen_ok,run_eql_struct,a],h⟩
  ·exact⟨_,by simp only[Sem.run_bind,j,Result.andThen_ok,run_neq_struct,a],h⟩
 unfold aggK at h;split at h
 case h_1 fs hu=>
  rw[WH]at h;obtain⟨d,h⟩:=h;simp only[zF,zAW]at d;split at h
  case h_2=>exact h.elim
  rename_i b hb;have g:P.fieldsOf t=fs:=by simp[Program.fieldsOf,hu]
  have a:(Op.equalIn 10000 t (.agg xs) (.agg ys)).run P w=.ok b w:=by
   have:=run_equalIn_struct (P:=P) w 9999 t xs ys (by rw[g];exact hu) d.1;rw[g]at this;exact this.trans (Wcc 9998 fs.toList b hb w)
  exact fin b a d.2 h
 case h_2 n e hu=>
  rw[WH]at h;obtain⟨d,h⟩:=h;simp only[zF,zAW,zZ]at d;split at h
  case h_2=>exact h.elim
  rename_i b hb;obtain⟨i,m⟩:=zCB.1 d.2.1;exact fin b ((run_equalIn_array (P:=P) w 9999 xs ys hu m).trans (WcM d.2.2 9998 _ b hb w)) d.1 h
 case h_3=>exact h.elim
theorem G6 {P:Program}{ρ:Env}{K:Value->Prop}{a:Act}{w:World}(hf:∀x v,ev ρ x=some v->a.eval x=v)(o:Oper)(hk:qK P o.op ρ w.heap K) :
 ∃v,(execOp a.eval o).run P w=.ok (.value v) w/\K v:=by
 obtain⟨dst,op,ty,pos,Z,W⟩:=o;simp only at hk;have g:∀{s:Sem Value},(∃v,s.run P w=.ok v w/\K v)->∃v,(do pure (Next.value (←s)):Sem Next).run P w=.ok (.value v) w/\K v:=by
  rintro s ⟨v,j,e⟩;exact⟨v,by simp[j],e⟩
 unfold qK at hk;split at hk
 case h_1 x=>
  obtain⟨v,j,e⟩:=Wq hk;exact⟨v,by simp[execOp,hf _ _ j],e⟩
 case h_2 x=>
  obtain⟨v,j,e⟩:=Wq hk;exact⟨v,by simp[execOp,hf _ _ j],e⟩
 case h_3 c x y=>
  obtain⟨v,j,e⟩:=Wq hk;split at e
  ·obtain⟨u,B,e⟩:=Wq e;exact⟨u,by simp[execOp,hf _ _ j,asBool,hf _ _ B],e⟩
  ·obtain⟨u,B,e⟩:=Wq e;exact⟨u,by simp[execOp,hf _ _ j,asBool,hf _ _ B],e⟩
  ·exact e.elim
 case h_4 t x=>
  obtain⟨v,j,e⟩:=Wq hk;simp only[execOp,hf _ _ j];apply g;split at e
  case h_1 M c F=>
   rw[WH]at e;obtain⟨d,hd,L⟩:=WfY F;obtain⟨x,p,e⟩:=WaP e.2;exact⟨_,by simp only[Instr.loadAt,Instr.sureAddr,loadVar,Sem.run_bind,Sem.run_pure,Result.andThen_ok,KF hd,L];simpa using WcD p,e⟩
  case h_2 M cs F=>
   rw[WH,WH]at e;obtain⟨r,z,e⟩:=e;obtain⟨d,hd,L⟩:=Wfu F;obtain⟨vs,hl,e,X⟩:=Wa5 (P:=P) e;have aa:P.cellsOf t=cs.length:=by simpa using r
   refine⟨_,?_,e⟩;simp only[Instr.loadAt,Instr.sureAddr,loadVar,Sem.run_bind,Sem.run_pure,Result.andThen_ok,KF hd,L,zS,QO z,loadCells,aa,X];simp
  ·exact e.elim
 case h_5 x=>
  obtain⟨v,j,e⟩:=Wq hk;simp only[execOp,hf _ _ j];split at e
  ·obtain⟨M,rfl,e⟩:=e;exact⟨_,by simp,e⟩
  ·exact⟨_,by simp,e⟩
  ·exact e.elim
 case h_6 op t x y yt=>
  obtain⟨D,p,hk⟩:=Wq hk;obtain⟨vy,hy,hk⟩:=Wq hk;simp only[execOp,hf _ _ p,hf _ _ hy];apply g;unfold Wh8 at hk;cases hn:WdK y
  ·rw[hn]at hk;simp only[cond_false]at hk;split at hk
   ·exact Wgs hk x y w
   obtain⟨v,j,e⟩:=WgQ hk w;exact⟨v,by simp[We3 w (Wj4 hk),j],e⟩
  ·rw[hn]at hk;simp only[cond_true]at hk;obtain⟨v,j,e⟩:=Wgu hk w;obtain⟨c,hc⟩:=Wgm hn;have hg:=Wdp (P:=P) (op:=op) (t:=t) (x:=x) (c:=c) (b:=vy) w (Wky hk);exact⟨v,by rw[hc];simp[hg,j],e⟩
 case h_7 op ty' x=>
  obtain⟨D,p,hk⟩:=Wq hk;simp only[execOp,hf _ _ p];apply g;split at hk
  ·exact⟨_,by simp[Op.unary],hk⟩
  ·exact⟨_,by simp[Op.unary,Op.intArith],hk⟩
  ·exact hk.elim
 case h_8 s d x=>
  obtain⟨D,p,hk⟩:=Wq hk;simp only[execOp,hf _ _ p];apply g;split at hk
  ·rename_i r z;exact⟨_,by simp[convert,run_underlying r,run_underlying z,Conv.intToInt],hk⟩
  ·rename_i r z;exact⟨_,by simp[convert,run_underlying r,run_underlying z],hk⟩
  ·rename_i r z;split at hk
   ·rename_i B;obtain⟨b,X,e⟩:=Wmo (P:=P) hk;exact⟨_,by simpa[convert,run_underlying r,run_underlying z,run_underlying B]using X,e⟩
   ·exact hk.elim
  ·exact hk.elim
 case h_9 s x f=>
  obtain⟨D,p,hk⟩:=Wq hk;obtain⟨fs,fd,F,H,hk⟩:=Wah hk;simp only[execOp,hf _ _ p];apply g;split at hk
  ·rename_i M;rw[WH]at hk;have R:P.cellsOf fd.type≠0:=by simpa using hk.1
   refine⟨_,?_,hk.2⟩;simp only[Instr.fieldAt,Sem.run_bind,run_underlying F,Result.andThen_ok,H,Instr.sureAddr,Sem.run_pure,fieldPlace,QO (Wds R),R,zt]
  ·exact hk.elim
 case h_10 s x f=>
  obtain⟨D,p,hk⟩:=Wq hk;obtain⟨fs,fd,F,H,hk⟩:=Wah hk;simp only[execOp,hf _ _ p];apply g;split at hk
  ·rename_i cs;obtain⟨v,j,e⟩:=Wec (w:=w) hk;refine⟨v,?_,e⟩;simp only[Instr.field,Sem.run_bind,run_underlying F,Result.andThen_ok,H,asAgg,Sem.run_pure,j]
  ·exact hk.elim
 case h_11 t x i=>
  obtain⟨D,p,hk⟩:=Wq hk;obtain⟨vi,G,hk⟩:=Wq hk;simp only[execOp,hf _ _ p,hf _ _ G];apply g;split at hk
  ·have B:=(by assumption:P.underlying t=some _);rw[WH]at hk;obtain⟨r,M,rfl,z,Q,e⟩:=hk;refine⟨_,?_,e⟩;simp[Instr.indexAt,asIntOf,run_underlying B,QO r,z,Q]
  ·have B:=(by assumption:P.underlying t=some _);rw[WH]at hk;obtain⟨r,z,Q,e⟩:=hk;refine⟨_,?_,e⟩;simp[Instr.indexAt,asIntOf,run_underlying B,QO r,z,Q,Instr.sureAddr]
  ·exact hk.elim
 case h_12 t x i=>
  obtain⟨D,p,hk⟩:=Wq hk;obtain⟨vi,G,hk⟩:=Wq hk;simp only[execOp,hf _ _ p,hf _ _ G];apply g;split at hk
  ·have B:=(by assumption:P.underlying t=some _);obtain⟨b,r,z,e⟩:=hk;refine⟨_,?_,e⟩;simp[Instr.index,asIntOf,run_underlying B,r,z]
  ·exact hk.elim
 case h_13 t x i ok=>
  obtain⟨D,p,hk⟩:=Wq hk;obtain⟨vi,G,hk⟩:=Wq hk;simp only[execOp,hf _ _ p,hf _ _ G];exact g (Wi9 hk)
 case h_14 t i=>
  obtain⟨D,p,hk⟩:=Wq hk;simp only[execOp,hf _ _ p];apply g;split at hk
  ·obtain⟨v,j,e⟩:=Wq hk;have U:=j;rw[zFB]at U;exact⟨v,by simp[Instr.extract,U],e⟩
  ·exact hk.elim
 case h_15 fn x y=>
  split at hk
  ·rename_i va vb r z;have E:=Z2 hf r;have N:=Z2 hf z;refine⟨_,?_,hk⟩;have J:x.map a.eval=va.toArray:=by apply Array.ext';simpa using E
   have Y:y.map a.eval=vb.toArray:=by apply Array.ext';simpa using N
   simp[execOp,Instr.makeFunc,J,Y]
  ·exact hk.elim
 case h_16 t ps=>
  split at hk
  ·rename_i vs r;have E:=VZ hf r;have J:ps.map (λ(i,x)=>(i,a.eval x))=vs.toArray:=by apply Array.ext';simpa using E
   simp only[execOp];apply g;rw[J];exact Wg4 (by simpa using hk)
  ·exact hk.elim
 case h_17 t x lo G mx=>
  obtain⟨D,p,hk⟩:=Wq hk;simp only[execOp,hf _ _ p];apply g;split at hk
  ·rename_i l h m r z Q;rw[WaC hf r,WaC hf z,WaC hf Q];exact Wgw hk
  ·exact hk.elim
 case h_18 t x=>
  obtain⟨D,p,hk⟩:=Wq hk;rw[WH]at hk;simp only[execOp,hf _ _ p];exact⟨_,by simp[run_makeInterface w t D hk.1],hk.2⟩
 case h_19 x xt t=>
  obtain⟨D,p,hk⟩:=Wq hk;simp only[execOp,hf _ _ p];apply g;split at hk
  case h_2=>exact hk.elim
  rename_i fs ti cs B G F;split at hk
  case h_2=>exact hk.elim
  rename_i zs hz;obtain⟨vs,b,j,e⟩:=hk.out;exact⟨_,WmR B G (by simpa using hz) j w,e⟩
 case h_20 c=>
  obtain⟨V,C,S⟩:=c;simp only at hk;split at hk
  ·rename_i x t ha ht;have A:=Z2 hf ha;have E:C.map a.eval = #[x]:=by apply Array.ext';simpa using A
   have N:S = #[t]:=by apply Array.ext';simpa using ht
   subst N;obtain⟨v,j,e⟩:=Wgf (ty:=ty) hk;refine⟨v,?_,e⟩;simp[execOp,resolve,E,invoke,builtin,j]
  ·rename_i M l n t ha ht;have A:=Z2 hf ha;have E:C.map a.eval = #[.slice M l n]:=by apply Array.ext';simpa using A
   have N:S = #[t]:=by apply Array.ext';simpa using ht
   subst N;split at hk
   ·rename_i B;refine⟨_,?_,hk⟩;simp[execOp,resolve,E,invoke,builtin,Builtin.cap_,run_underlying B,goInt]
   ·exact hk.elim
  ·rename_i x xs ha;have A:=Z2 hf ha;have E:C.map a.eval=(x::xs).toArray:=by apply Array.ext';simpa using A
   obtain⟨v,j,e⟩:=Wa1 (P:=P) (w:=w) hk;refine⟨v,?_,e⟩;simp only[zS]at j;simp[execOp,resolve,E,invoke,builtin,Builtin.max_,j]
  ·rename_i x xs ha;have A:=Z2 hf ha;have E:C.map a.eval=(x::xs).toArray:=by apply Array.ext';simpa using A
   obtain⟨v,j,e⟩:=Wa1 (P:=P) (w:=w) hk;refine⟨v,?_,e⟩;simp only[zb,zt]at j;simp[execOp,resolve,E,invoke,builtin,Builtin.min_,j]
  ·exact hk.elim
 ·exact hk.elim
def rsOf (P:Program):List TypeId->Option (List SK)
 | []=>some []
 | t::ts=>match skOf P t,rsOf P ts with|some s,some ss=>some (s::ss)|_,_=>none
def Ho (P:Program)(f:Nat):Bool:=
 match P.funcs[f]? with
 | some fn=>!(fn.name == "runtime.NumGoroutine") && fn.body.isSome
 | none=>false
def ExtB (P:Program)(f:Nat)(args:List Value)(h:Hp)(K:aO):Prop:=
 ∀w:World,w.heap=h->∃b w',(callFunc f args.toArray).run P w=.ok (.value (.bool b)) w'/\ZP w w'/\K b w'.heap
def WnR (P:Program)(f:Nat)(args:List Value)(h:Hp)(K:Value->Hp->Prop):Prop:=
 match P.funcs[f]? with
 | some fn=>match rsOf P fn.resultTypes.toList with
  | some rs=>match Ho P f with
   | true=>We P f args.toArray rs h (lam (ksOf rs) λvs h'=>K (pack rs vs) h')
   | false=>match rs with
    | [.one .b]=>ExtB P f args h λb h'=>K (.bool b) h'
    | _=>False
  | none=>False
 | none=>False
def ivK (P:Program)(v:Value)(name:String)(args:List Value)(ty:TypeId)(h:Hp)(K:Value->Hp->Prop):Prop:=
 match (match P.underlying ty with|some (.tuple ts)=>rsOf P ts.toList|_=>rsOf P [ty])with
 | some rs=>InvK P v name args rs h (lam (ksOf rs) λvs h'=>K (pack rs vs) h')
 | none=>False
def FvOk (P:Program)(fv:Fv):Prop:=Ho P fv.f=true
def VK (P:Program)(fv:Fv)(args:List Value)(rs:List SK)(h:Hp)(R:Fam (ksOf rs)):Prop:=
 FvOk P fv/\WoT P fv args rs h R
def Wh4 (P:Program)(fv:Fv)(args:List Value)(ty:TypeId)(h:Hp)(K:Value->Hp->Prop):Prop:=
 match (match P.underlying ty with|some (.tuple ts)=>rsOf P ts.toList|_=>rsOf P [ty])with
 | some rs=>VK P fv args rs h (lam (ksOf rs) λvs h'=>K (pack rs vs) h')
 | none=>False
def stK (a:Addr)(vs:List Value)(h:Hp)(K:aP):Prop:=
 match vs with
 | [v]=>St1 a v h K
 | vs=>StN a h vs 0 K
def Wdu (P:Program)(t:TypeId)(K:IntKind->CK->Prop):Prop:=
 match P.underlying t with
 | some (.map kt et)=>match P.underlying kt,ekOf P et with
  | some (.int k),some (.one c)=>K k c
  | _,_=>False
 | _=>False
def bsK (P:Program)(t:TypeId)(len:Nat)(ps:List (Nat×Value))(K:TypeId->List Value->Prop):Prop:=
 match P.underlying t with
 | some (.slice e)=>match P.info? e with
  | some te=>match te.zero with
   | some z=>match len,ps with
    | 0,[]=>K e []
    | 0,_::_=>False
    | len+1,ps=>chk (Nat.ble ((len+1)*te.size) 16777216&&Nat.blt 0 ((len+1)*te.size)&&z.cells.size==te.size)
     (match WdP (λi=>some (i*te.size,te.size)) (List.replicate (len+1) z.cells.toList).flatten ps with
     | some cs=>K e cs
     | none=>False)
   | none=>False
  | none=>False
 | _=>False
def eK (P:Program)(o:Op)(ty:TypeId)(ρ:Env)(h:Hp)(K:Value->Hp->Prop):Prop:=
 match o with
 | .store t a x=>wv (ev ρ a) λva=>wv (ev ρ x) λvx=>match va with
  | .pointer (some a)=>bif WcX P t then chk ((P.info? t).isSome&&P.cellsOf t==1) (IsIf vx/\St1 a vx h λh'=>K undef h')
   else chk ((P.info? t).isSome&&vx.cells.size==P.cellsOf t) (O1L vx.cells.toList (stK a vx.cells.toList h λh'=>K undef h'))
  | _=>False
 | .alloc e=>match P.info? e with
  | some te=>match te.zero with
   | some z=>Nw (.cells z.cells e (0,0)) h λa h'=>K (.pointer (some a)) h'
   | none=>False
  | none=>False
 | .box e x=>wv (ev ρ x) λv=>bif WcX P e then IsIf v/\Nw (.cells #[v] e (0,0)) h λa h'=>K (.pointer (some a)) h' else Nw (.cells v.cells e (0,0)) h λa h'=>K (.pointer (some a)) h'
 | .buildSlice t len ps=>match GB ρ ps.toList with
  | some vs=>bsK P t len vs λe cs=>Nw (.cells cs.toArray e (0,0)) h λa h'=>K (.slice (some a) len len) h'
  | none=>False
 | .makeMap t r=>match r with
  | none=>Nw (.map #[] 0) h λa h'=>K (.map (some a.block)) h'
  | some _=>False
 | .makeSlice t l c=>wv (ev ρ l) λvl=>wv (ev ρ c) λvc=>match P.underlying t,vl,vc with
  | some (.slice e),.int .i64 n,.int .i64 m=>match P.info? e with
   | some te=>match te.zero with
    | some z=>chk (z.cells.size==te.size&&Nat.blt 0 te.size) (Mk n m te.bytes e z.cells.toList h λs h'=>K (.slice s.a s.len s.cap) h')
    | none=>False
   | none=>False
  | _,_,_=>False
 | .range t x=>wv (ev ρ x) λv=>Wdu P t λki c=>match v with
  | .map m=>Rng ki c m h λa h'=>K (.pointer (some a)) h'
  | _=>False
 | .mapUpdate t m k x=>wv (ev ρ m) λvm=>wv (ev ρ k) λvk=>wv (ev ρ x) λvx=>Wdu P t λki c=>match vm,vk with
  | .map m,.int k' n=>if ki=k' then unv c vx λx=>MSet ki c m n x h λh'=>K undef h' else False
  | _,_=>False
 | .call c=>match c.callee,evs ρ c.args.toList,c.argTypes.toList with
  | .value (.func f),some args,_=>WnR P f args h K
  | .value g,some args,_=>wv (ev ρ g) λvg=>unv .fn vg λfv=>Wh4 P fv args ty h K
  | .invoke r name,some args,_=>wv (ev ρ r) λvr=>ivK P vr name args ty h K
  | .builtin .append,some [.slice sa sn sc,.slice xa xn xc],[t,t']=>match P.underlying t with
   | some (.slice e)=>match P.info? e with
    | some te=>match te.zero with
     | some z=>chk (Nat.beq t t'&&z.cells.size==te.size&&Nat.blt 0 te.size) (App ⟨sa,sn,sc⟩ te.size te.bytes e z.cells.toList ⟨xa,xn,xc⟩ h λs h'=>K (.slice s.a s.len s.cap) h')
     | none=>False
    | none=>False
   | _=>False
  | .builtin .delete,some [.map m,.int k' n],t::_=>Wdu P t λki c=>if ki=k' then MDel ki c m n h λh'=>K (.tuple #[]) h' else False
  | .builtin .append,some [.slice sa sn sc,.int .i64 n],[t,t']=>match P.underlying t,P.underlying t' with
   | some (.slice e),some (.int _)=>match P.info? e with
    | some te=>match te.zero with
     | some z=>chk (z.cells.size==te.size&&Nat.blt 0 te.size) (AppZ ⟨sa,sn,sc⟩ te.size te.bytes e z.cells.toList n h λs h'=>K (.slice s.a s.len s.cap) h')
     | none=>False
    | none=>False
   | _,_=>False
  | .builtin .copy,some [.slice da dn dc,.slice xa xn xc],t::_=>match P.underlying t with
   | some (.slice e)=>match P.info? e with
    | some te=>Cpy ⟨da,dn,dc⟩ te.size ⟨xa,xn,xc⟩ h λz h'=>K (.int .i64 z) h'
    | none=>False
   | _=>False
  | .builtin .clear,some [.slice sa sn sc],[t]=>match P.underlying t with
   | some (.slice e)=>match P.info? e with
    | some te=>match te.zero with
     | some z=>chk (z.cells.size==te.size&&Nat.blt 0 te.size) (Clr ⟨sa,sn,sc⟩ z.cells.toList h λh'=>K (.tuple #[]) h')
     | none=>False
    | none=>False
   | _=>False
  | _,_,_=>False
 | _=>False
def opK (P:Program)(o:Op)(ty:TypeId)(ρ:Env)(h:Hp)(K:Value->Hp->Prop):Prop:=
 bif isQ o then qK P o ρ h (λv=>K v h)else eK P o ty ρ h K
theorem Wjj:∀{vs:List Value} {A:Prop},O1L vs A->A/\∀v∈vs,one1 v=true
 | [],A,h=>⟨h,by simp⟩
 | v::vs,A,h=>by
  have h1:one1 v=true/\O1L vs A:=by cases v<;>first|exact h.elim|exact⟨rfl,h⟩
  obtain⟨b,d⟩:=Wjj h1.2;exact⟨b,λu a=>by
   rcases zQ.1 a with rfl|a
   ·exact h1.1
   ·exact d u a⟩
theorem ZP.refl (w:World):ZP w w:=⟨rfl,rfl,rfl,zD _⟩
theorem ZP.trans {a b c:World}(h:ZP a b)(k:ZP b c):ZP a c:=⟨k.1.trans h.1,k.2.1.trans h.2.1,k.2.2.1.trans h.2.2.1,zI h.2.2.2 k.2.2.2⟩
theorem Vg (h:Hp)(a:Addr)(v:Value):(setc h a v).size=h.size:=by simp[setc]
theorem Wim {P:Program}{w:World}{a:Addr}{v:Value}(ho:one1 v=true)(h1:(cell w.heap a).isSome=true)(h2:frz w.heap a=false):(store a v).run P w=.ok () (w.setCell a v):=by
 obtain⟨u,e⟩:=zCB.1 h1;have d:w.cell? a=some u:=e;have b:w.frozen? a=false:=h2;cases v<;>simp[one1]at ho<;>simp[store,Sem.run,d,b]
theorem Gn {P:Program}:∀{vs:List Value} {w:World} {a:Addr} {i:Nat} {K:aP},(∀v∈vs,one1 v=true)->StN a w.heap vs i K →
 ∃w',(storeCells a vs i).run P w=.ok () w'/\ZP w w'/\K w'.heap
 | [],w,a,i,K,_,h=>⟨w,by simp[storeCells],.refl _,h⟩
 | v::vs,w,a,i,K,ho,h=>by
  obtain⟨h1,h2,h3⟩:=h;have m:=Wim (P:=P) (ho v aA) h1 h2;obtain⟨w',j,g,d⟩:=Gn (P:=P) (w:=w.setCell (a.add i) v) (λu e=>ho u (by simp[e])) h3;refine⟨w',?_,ZP.trans (b:=w.setCell (a.add i) v) ⟨rfl,rfl,rfl,Nat.le_of_eq (Vg w.heap (a.add i) v).symm⟩ g,d⟩;simp only[storeCells,Sem.run_bind,m,Result.andThen_ok,j]
theorem WmJ {P:Program}{vs:List Value}{w:World}{a:Addr}{K:aP}(ho:∀v∈vs,one1 v=true)(h:stK a vs w.heap K) :
 ∃w',(storeCells a vs).run P w=.ok () w'/\ZP w w'/\K w'.heap:=by
 refine Gn ho ?_;unfold stK at h;split at h
 ·simpa[StN,Addr.add_zero']using h
 ·exact h
def Vl (P:Program)(s:Sem Next)(w:World)(K:Value->Hp->Prop):Prop:=
 (∃v w',s.run P w=.ok (.value v) w'/\ZP w w'/\K v w'.heap) ∨
 (∃w',s.run P w=.ok .skip w'/\ZP w w'/\K undef w'.heap) ∨
 (∃f args rs R,s.run P w=.ok (.enter f args) w/\We P f args rs w.heap R/\∀vs h',Sat (ksOf rs) R vs h'->K (pack rs vs) h')
theorem Vl.upon {P:Program}{o:Oper}{a:Act}{w:World}{K:Value->Hp->Prop}{next:Act->World->Prop}{Q:Exit->Act->World->Prop}
 (h:Vl P (execOp a.eval o) w K) (hn:∀v w',ZP w w'->K v w'.heap->next (a.put o.dst v) w'):o.wp P a w next Q:=by
 unfold Oper.wp;rcases h with⟨v,w',hr,b,hK⟩|⟨w',hr,b,hK⟩|⟨f,args,rs,R,hr,hc,hK⟩
 ·rw[hr];exact hn _ _ b hK
 ·rw[hr];exact hn _ _ b hK
 ·rw[hr];refine(hc w rfl).mono λe w' ⟨b,vs,d,g⟩=>?_;subst d;exact hn _ _ b (hK _ _ g)
theorem GK {P:Program}{f:Nat}(h:Ho P f=true)(args:Array Value)(w:World):(callFunc f args).run P w=.ok (.enter f args) w:=by
 unfold Ho at h;split at h
 ·rename_i fn hf;simp only[zF,zAW,zBC]at h;obtain⟨a,d⟩:=h;obtain⟨c,b⟩:=zCB.1 d;simp[callFunc,hf,a,b]
 ·cases h
theorem Wdi {P:Program}{f:Nat}{args:List Value}{w:World}{K:Value->Hp->Prop}(h:WnR P f args w.heap K):Vl P (callFunc f args.toArray) w K:=by
 unfold WnR at h;split at h
 ·split at h
  ·rename_i rs hrs;split at h
   ·rename_i hc;exact .inr (.inr ⟨f,_,rs,_,GK hc _ _,h,λvs j i=>UU i⟩)
   ·split at h
    ·obtain⟨b,d,g,e,a⟩:=h w rfl;exact .inl ⟨_,d,g,e,a⟩
    ·exact h.elim
  ·exact h.elim
 ·exact h.elim
theorem WcN {P:Program}{fv:Fv}{args:List Value}{ty:Nat}{w:World}{K:Value->Hp->Prop}(h:Wh4 P fv args ty w.heap K) :
 Vl P (callFunc fv.f (fv.first++args.toArray++fv.captured)) w K:=by
 unfold Wh4 at h;split at h
 ·rename_i rs _;exact .inr (.inr ⟨_,_,rs,_,GK h.1 _ _,h.2,λvs b a=>UU a⟩)
 ·exact h.elim
theorem Wf7 {P:Program}{v:Value}{name:String}{args:List Value}{ty:Nat}{w:World}{K:Value->Hp->Prop}(h:ivK P v name args ty w.heap K) :
 Vl P (callMethod v name args.toArray) w K:=by
 unfold ivK at h;split at h
 ·rename_i rs _;obtain⟨t,u,f,rfl,b,a,h⟩:=h;refine .inr (.inr ⟨f,_,rs,_,?_,h,λvs e d=>UU d⟩);simp only[callMethod,Sem.run_bind,run_program,Result.andThen_ok,b,a];simp
 ·exact h.elim
theorem WaH {P:Program}{t:Nat}{K:IntKind->CK->Prop}(h:Wdu P t K):∃kt et k c,P.underlying t=some (.map kt et)/\P.underlying kt=some (.int k)/\K k c:=by
 unfold Wdu at h;split at h
 ·split at h
  ·exact⟨_,_,_,_,by assumption,by assumption,h⟩
  ·exact h.elim
 ·exact h.elim
theorem Uz (w:World)(o:Obj):ZP w {w with heap:=w.heap.push o}:=⟨rfl,rfl,rfl,by simp⟩
theorem HC (h:Hp)(r:Nat)(o:Obj):QD h (h.setIfInBounds r o) r:=⟨by simp,λb a=>by rw[zFC (Ne.symm a)]⟩
theorem WbW {es:List MapEntry}{k:IntKind}{c:CK}:∀(l:List (Int×c.T)) (es:List MapEntry) (j:Nat) (n:Int) (x:c.T),
 es.map (λe=>(e.key,e.val))=l.map (λx=>(Value.int k x.1,c.v x.2))->(l.map (·.1)).Nodup->l.findIdx? (λx=>x.1==n)=some j →
 (es.modify j λe=>{e with key:=.int k n,val:=c.v x}).map (λe=>(e.key,e.val))=(l.map λy=>if y.1==n then(n,x)else y).map (λx=>(Value.int k x.1,c.v x.2))
 | [],es,j,n,x,he,hn,hj=>by simp at hj
 | y::l,[],j,n,x,he,hn,hj=>by simp at he
 | y::l,e::es,j,n,x,he,hn,hj=>by
  simp only[zJ,List.cons.injEq]at he;simp only[zJ,zo]at hn;simp only[zEJ]at hj;cases hy:y.1==n
  ·rw[hy]at hj;simp only[zb,zt,zCJ]at hj;obtain⟨j',hj',rfl⟩:=hj;have:=WbW (es:=es) l es j' n x he.2 hn.2 hj';simp only[List.modify_succ_cons,zJ,this,hy,he.1];simp
  ·rw[hy]at hj;simp at hj;subst hj;have a:y.1=n:=by simpa using hy
   simp only[List.modify_zero_cons,zJ,hy,zS,List.cons.injEq,zDO,he.2]
   congr 1
   have:∀z∈l,(z.1==n)=false:=by
    intro z hz;have:z.1≠y.1:=λe=>hn.1 (by rw[←e];exact zFD hz);simpa[a]using this
   have e:l=l.map λz=>if z.1==n then(n,x)else z:=by
    conv=>lhs;rw[←zEK l]
    apply zAH;intro z hz;simp[this z hz]
   exact e
theorem Weg {α:Type}{l:List (Int×α)}{n:Int}{j:Nat}(h:l.findIdx? (λx=>x.1==n)=some j):l.any (λx=>x.1==n)=true:=by
 obtain⟨x,a,rfl⟩:=Uj h;rw[zw];exact⟨x,zE a,by simp⟩
theorem GQ {α:Type}{l:List (Int×α)}{n:Int}(h:l.findIdx? (λx=>x.1==n)=none):l.any (λx=>x.1==n)=false:=by
 rw[zDT]at h;rw[zAX];simpa using h
theorem mset_keys {α:Type}{l:List (Int×α)}{n:Int}{x:α}(hn:(l.map (·.1)).Nodup):((mset l n x).map (·.1)).Nodup:=by
 unfold mset;split
 ·have:(l.map λy=>if y.1==n then(n,x)else y).map (·.1)=l.map (·.1):=by
   rw[zAC];apply zAH;intro y _;simp only[Function.comp];split
   ·rename_i h;simp at h;exact h.symm
   ·rfl
  rwa [this]
 ·rename_i h;rw[zAD,zBJ];refine⟨hn,by simp,?_⟩;intro a ha b hb;simp at hb;subst hb;rintro rfl;obtain⟨y,d,rfl⟩:=zC.1 ha;exact h (zw.2 ⟨y,d,by simp⟩)
theorem Wk7 {P:Program}{t kt et:Nat}{k:IntKind}{c:CK}(hu:P.underlying t=some (.map kt et))(hk:P.underlying kt=some (.int k)){r:Nat}{l:List (Int×c.T)}{n:Int}{x:c.T}{w:World}
 (hm:MapL w.heap r k c l):∃w',(Instr.mapUpdate t (.map (some r)) (.int k n) (c.v x)).run P w=.ok () w'/\ZP w w'/\QD w.heap w'.heap r/\MapL w'.heap r k c (mset l n x):=by
 obtain⟨es,d,p,i,E,F,D⟩:=hm;have C:r<w.heap.size:=(zAQ.1 p).1;have g:∀o,(w.heap.setIfInBounds r o)[r]?=some o:=λo=>by simp[C]
 cases hf:l.findIdx? (λx=>x.1==n)with
 | some j=>
  obtain⟨y,G,A⟩:=Uj hf;have L:j<l.length:=(gSi.1 G).1;have u:es.toList.length=l.length:=by simpa using congrArg List.length i
  have s:j<es.size:=by simp at u;omega
  have z:es[j].key=.int k n:=by
   have:=congrArg (λl=>l[j]?) i;simp only[zf,G,zg]at this;rw[zFB,Array.getElem?_eq_getElem s]at this;simp at this;rw[this.1,A]
  refine⟨{w with heap:=w.heap.setIfInBounds r (.map (es.modify j λe=>{e with key:=.int k n,val:=c.v x}) d)},?_,⟨rfl,rfl,rfl,by simp⟩,HC _ _ _,?_⟩
  ·simp only[Instr.mapUpdate,Sem.run_bind,run_underlying hu,Result.andThen_ok,QM hk,getObj,Sem.run,p,Kq hk i,hf];simp[Array.getElem?_eq_getElem s,z,Instr.keyThatStays,Instr.sameBits,setObj,Sem.run,p]
  ·refine⟨_,d,g _,?_,mset_keys E,?_,?_⟩
   ·rw[zGA,WbW (es:=[]) l es.toList j n x i E hf];simp[mset,Weg hf]
   ·have:(es.modify j λe=>{e with key:=.int k n,val:=c.v x}).toList.map (·.born)=es.toList.map (·.born):=by
     rw[zGA];apply zu;intro m;simp only[zf,zDB];cases es.toList[m]?<;>simp
     split<;>rfl
    rw[this];exact F
   ·intro e he';have:e.born∈(es.modify j λe=>{e with key:=.int k n,val:=c.v x}).toList.map (·.born):=zFD he';have H:(es.modify j λe=>{e with key:=.int k n,val:=c.v x}).toList.map (·.born)=es.toList.map (·.born):=by
     rw[zGA];apply zu;intro m;simp only[zf,zDB];cases es.toList[m]?<;>simp
     split<;>rfl
    rw[H]at this;obtain⟨M,K,J⟩:=zC.1 this;rw[←J];exact D M K
 | none=>
  refine⟨{w with heap:=w.heap.setIfInBounds r (.map (es.push {key:=.int k n,val:=c.v x,born:=d}) (d+1))},?_,⟨rfl,rfl,rfl,by simp⟩,HC _ _ _,?_⟩
  ·simp only[Instr.mapUpdate,Sem.run_bind,run_underlying hu,Result.andThen_ok,QM hk,getObj,Sem.run,p,Kq hk i,hf];simp[setObj,Sem.run,p]
  ·refine⟨_,d+1,g _,?_,mset_keys E,?_,?_⟩
   ·simp[mset,GQ hf,i]
   ·simp only[Array.toList_push,zAD,zJ,zCC,zBT];refine⟨F,by simp,?_⟩;intro a ha b hb';simp at hb';subst hb';obtain⟨e,B,rfl⟩:=zC.1 ha;exact D e B
   ·intro e he';simp only[Array.toList_push,zR,zV]at he';rcases he' with h|rfl
    ·have:=D e h;omega
    ·simp
theorem UH {k:IntKind}{c:CK}:∀(l:List (Int×c.T)) (es:List MapEntry) (j:Nat) (n:Int),
 es.map (λe=>(e.key,e.val))=l.map (λx=>(Value.int k x.1,c.v x.2))->(l.map (·.1)).Nodup->l.findIdx? (λx=>x.1==n)=some j →
 (es.eraseIdx j).map (λe=>(e.key,e.val))=(mdel l n).map (λx=>(Value.int k x.1,c.v x.2))
 | [],es,j,n,he,hn,hj=>by simp at hj
 | y::l,[],j,n,he,hn,hj=>by simp at he
 | y::l,e::es,j,n,he,hn,hj=>by
  simp only[zJ,List.cons.injEq]at he;simp only[zJ,zo]at hn;simp only[zEJ]at hj;cases hy:y.1==n
  ·rw[hy]at hj;simp only[zb,zt,zCJ]at hj;obtain⟨j',hj',rfl⟩:=hj;have:=UH l es j' n he.2 hn.2 hj';simp only[List.eraseIdx_cons_succ,zJ,this,mdel,zCK,hy,he.1];simp
  ·rw[hy]at hj;simp at hj;subst hj;have a:y.1=n:=by simpa using hy
   simp only[List.eraseIdx_zero,List.tail_cons,mdel,zCK,hy,Bool.not_true,zb,zt,he.2]
   congr 1
   symm
   rw[zBK];intro z hz;have:z.1≠y.1:=λe=>hn.1 (by rw[←e];exact zFD hz);simpa[a]using this
theorem Hk {α:Type}{l:List (Int×α)}{n:Int}(h:l.findIdx? (λx=>x.1==n)=none):mdel l n=l:=by
 rw[zDT]at h;unfold mdel;rw[zBK];intro z hz;have:=h z hz;simpa using this
theorem mdel_keys {α:Type}{l:List (Int×α)}{n:Int}(hn:(l.map (·.1)).Nodup):((mdel l n).map (·.1)).Nodup:=
 hn.sublist (List.Sublist.map _ zCT)
theorem WkC {P:Program}{t kt et ty:Nat}{k:IntKind}{c:CK}(hu:P.underlying t=some (.map kt et))(hk:P.underlying kt=some (.int k)){m:Option Nat}{l:List (Int×c.T)}{n:Int}{w:World}{ats:List Nat}
 (hm:MapO w.heap m k c l):∃w',(Builtin.delete_ (t::ats).toArray ty #[.map m,.int k n]).run P w=.ok (.tuple #[]) w'/\ZP w w'/\(∀r,m=some r->QD w.heap w'.heap r)/\(m=none->w'.heap=w.heap)/\MapO w'.heap m k c (mdel l n):=by
 cases m with
 | none=>
  simp only[MapO]at hm;subst hm;exact⟨w,by simp[Builtin.delete_,run_underlying hu,QM hk],.refl _,λr h=>(by cases h),λ_=>rfl,rfl⟩
 | some r=>
  obtain⟨d,a,p,g,s,u,y⟩:=hm;have i:r<w.heap.size:=(zAQ.1 p).1;have b:∀o,(w.heap.setIfInBounds r o)[r]?=some o:=λo=>by simp[i]
  cases hf:l.findIdx? (λx=>x.1==n)with
  | some j=>
   refine⟨{w with heap:=w.heap.setIfInBounds r (.map (d.eraseIdxIfInBounds j) a)},?_,⟨rfl,rfl,rfl,by simp⟩,λz h=>(by cases h;exact HC _ _ _),(λh=>by cases h),?_⟩
   ·simp[Builtin.delete_,run_underlying hu,QM hk,getObj,Sem.run,p,Kq hk g,hf,setObj]
   ·refine⟨_,a,b _,?_,mdel_keys s,?_,?_⟩
    ·rw[zGB];exact UH l d.toList j n g s hf
    ·rw[zGB];exact u.sublist (List.Sublist.map _ (List.eraseIdx_sublist _ _))
    ·rw[zGB];intro e he';exact y e ((List.eraseIdx_sublist _ _).mem he')
  | none=>
   refine⟨{w with heap:=w.heap.setIfInBounds r (.map d a)},?_,⟨rfl,rfl,rfl,by simp⟩,λz h=>(by cases h;exact HC _ _ _),(λh=>by cases h),?_⟩
   ·simp[Builtin.delete_,run_underlying hu,QM hk,getObj,Sem.run,p,Kq hk g,hf,setObj]
   ·rw[Hk hf];exact⟨d,a,b _,g,s,u,y⟩
theorem WbV {P:Program}{w:World}{sz n:Nat}{s:Sl}{xs:List Value}(hl:xs.length=s.len*sz)(h:Rd w.heap s.a xs)(hn:n=s.len) :
 (Builtin.firstCells sz n (.slice s.a s.len s.cap)).run P w=.ok xs.toArray w:=by
 subst hn;obtain⟨a,len,cap⟩:=s;cases a with
 | none=>simp only[Rd]at h;subst h;simp[Builtin.firstCells]
 | some a=>
  simp only at hl h;simp only[Builtin.firstCells];rw[←hl];have:=run_loadCells_list (P:=P) (w:=w) a xs (λj v b=>h j v b);exact this
theorem VA {z:Array Value}(hz:0<z.size):∀n,Builtin.zeroCells z n=(List.replicate n z.toList).flatten.toArray:=by
 intro n;apply Array.ext';simp only[Builtin.zeroCells,Array.toList_map,Array.toList_range]
 induction n with
 | zero=>simp
 | succ n ih=>
  rw[zGC,zGD];simp only[zDU,List.flatten_nil,zy];rw[←ih];rw[Nat.succ_mul,List.range_add,zAD,zAC]
  congr 1
  apply List.ext_getElem
  ·simp
  ·intro i h1 h2;simp at h1 h2;simp[zDV h1,h1]
theorem Wbs (n c:Nat)(h:¬n<=c):Builtin.nextslicecap n c<=2*n:=by
 unfold Builtin.nextslicecap;split
 ·omega
 ·split
  ·omega
  ·have key:∀r c,c<=2*n->(Builtin.growBy n r c)<=2*n:=by
    intro r
    induction r with
    | zero=>intro c hc;simpa[Builtin.growBy]using hc
    | succ r ih=>
     intro c hc;simp only[Builtin.growBy];split
     ·exact hc
     ·exact ih _ O
   exact key _ _ O
theorem Wmy {P:Program}{t e ty:Nat}{te:TypeInfo}{z:Value}{s x:Sl}{K:Sl->Hp->Prop}{w:World}(hu:P.underlying t=some (.slice e))(hi:P.info? e=some te)(hz:te.zero=some z)(hzs:z.cells.size=te.size)(hpos:0<te.size)
 (h:App s te.size te.bytes e z.cells.toList x w.heap K) :
 ∃r w',(Builtin.append_ #[t,t] ty #[.slice s.a s.len s.cap,.slice x.a x.len x.cap]).run P w=.ok (.slice (Sl.a r) r.len r.cap) w'/\ZP w w'/\K r w'.heap:=by
 obtain⟨J,M,G,F,L,H,C,W,V,b,d⟩:=h;have u:=WbV (P:=P) (n:=s.len) G L rfl;have i:=WbV (P:=P) (n:=x.len) F H rfl;by_cases hroom:s.len+x.len<=s.cap
 ·have b:=b hroom;cases hsa:s.a with
  | some a=>
   rw[hsa]at b;obtain⟨w',R,S,A⟩:=Gn (P:=P) C b;rw[hsa]at u;refine⟨⟨some a,s.len+x.len,s.cap⟩,w',?_,S,A⟩;simp[Builtin.append_,run_underlying hu,sizeOf,typeInfo,hi,Builtin.lenOf,hroom,i,R]
  | none=>
   rw[hsa]at b;rw[hsa]at u;refine⟨⟨none,s.len+x.len,s.cap⟩,w,?_,.refl _,b⟩;simp[Builtin.append_,run_underlying hu,sizeOf,typeInfo,hi,Builtin.lenOf,hroom,i]
 ·have d:=d hroom;have j:¬(2^48<Builtin.nextslicecap (s.len+x.len) s.cap*te.bytes):=by
   have:=Wbs (s.len+x.len) s.cap hroom;have:Builtin.nextslicecap (s.len+x.len) s.cap*te.bytes<=2*(s.len+x.len)*te.bytes:=zAJ _ this;rw[zEL]at this;omega
  have N:¬(IntKind.i64.max<((s.len+x.len:Nat):Int)):=by
   have:IntKind.i64.max=9223372036854775807:=by decide
   rw[this];omega
  have B:¬(IntKind.i64.max<((s.len:Int)+(x.len:Int))):=by
   have:IntKind.i64.max=9223372036854775807:=by decide
   rw[this];omega
  have E:=VA (z:=z.cells) O;have y:s.cap<s.len+x.len:=by omega
  have g:¬(281474976710656<Builtin.nextslicecap (s.len+x.len) s.cap*te.bytes):=by simpa using j
  let q:=Question.appendCap (s.len+x.len) s.cap e
  let c:=q.cut (w.tape w.drawn q)
  have U:s.len+x.len<=c:=by simp only[c,q,Question.cut];omega
  have A:=d c U;refine⟨⟨some ⟨w.heap.size,0,none⟩,s.len+x.len,c⟩,{w with drawn:=w.drawn+1,heap:=w.heap.push (.cells (J++M++(List.replicate (c-(s.len+x.len)) z.cells.toList).flatten).toArray e (0,0))},?_,⟨rfl,rfl,rfl,by simp⟩,A⟩;have Q:(Question.appendCap (s.len+x.len) s.cap e).forced=false:=rfl;have D:¬(9223372036854775807<(s.len:Int)+(x.len:Int)):=by omega
  have p:=WbV (P:=P) (w:=w.drew) (n:=s.len) G (show Rd w.drew.heap s.a J from L) rfl;have m:=WbV (P:=P) (w:=w.drew) (n:=x.len) F (show Rd w.drew.heap x.a M from H) rfl;simp[Builtin.append_,run_underlying hu,sizeOf,typeInfo,hi,Builtin.lenOf,hroom,D,Q,g,p,m,zeroValue,hz,E,newRow];refine⟨rfl,?_⟩;unfold World.alloc World.drew;simp[c,q]
theorem WkK {P:Program}{t t' e ty:Nat}{te:TypeInfo}{z:Value}{s:Sl}{n:Int}{ki:IntKind}{K:Sl->Hp->Prop}{w:World}(hu:P.underlying t=some (.slice e))(hu':P.underlying t'=some (.int ki))(hi:P.info? e=some te)(hz:te.zero=some z)(hzs:z.cells.size=te.size)(hpos:0<te.size)
 (h:AppZ s te.size te.bytes e z.cells.toList n w.heap K) :
 ∃r w',(Builtin.append_ #[t,t'] ty #[.slice s.a s.len s.cap,.int .i64 n]).run P w=.ok (.slice (Sl.a r) r.len r.cap) w'/\ZP w w'/\K r w'.heap:=by
 obtain⟨N,X,W,V,Q,Y,h6,Z,i,j⟩:=h;obtain⟨n,rfl⟩:=zk N;simp only[iTn]at Y h6 Z i j;have F:=WbV (P:=P) (n:=s.len) W V rfl;have J:∀v∈(List.replicate n z.cells.toList).flatten,one1 v=true:=by
  intro v G;simp only[List.mem_flatten,zFE]at G;obtain⟨l,⟨_,rfl⟩,G⟩:=G;exact Q v G
 have B:IntKind.i64.wrap (n:Int)=n:=by unfold IntKind.wrap;simp[IntKind.bits,IntKind.signed];omega
 have A:IntKind.i64.wrap 0=0:=by decide
 have u:=VA (z:=z.cells) O;have C:¬((n:Int)<0):=by omega
 have U:¬((n:Int)*(te.bytes:Int)>2^48):=by
  have:(2:Int)^46<=2^48:=by decide
  omega
 have p:¬(281474976710656<(n:Int)*(te.bytes:Int)):=by simpa using U
 have S:n*te.size=0->(List.replicate n z.cells.toList).flatten=[]:=by
  intro h0;rcases zDW.1 h0 with h|h
  ·subst h;simp
  ·omega
 by_cases hroom:s.len+n<=s.cap
 ·have i:=i hroom;cases hsa:s.a with
  | some a=>
   rw[hsa]at i;obtain⟨w',L,io,H⟩:=Gn (P:=P) J i;rw[hsa]at F;refine⟨⟨some a,s.len+n,s.cap⟩,w',?_,io,H⟩;by_cases hn:n*te.size=0
   ·have:=S hn;rw[this]at L;rcases zDW.1 hn with hn'|hn'
    ·subst hn';have b:s.len<=s.cap:=by simpa using hroom
     simp[Builtin.append_,run_underlying hu,run_underlying hu',sizeOf,typeInfo,hi,Builtin.lenOf,b,asInt,asIntOf,A,L]
    ·omega
   ·have d:¬n=0:=λe=>hn (by rw[e];simp);have g:¬te.size=0:=by omega
    simp[Builtin.append_,run_underlying hu,run_underlying hu',sizeOf,typeInfo,hi,Builtin.lenOf,hroom,L,asInt,asIntOf,B,C,p,hn,d,g,zeroValue,hz,u]
  | none=>
   rw[hsa]at i;rw[hsa]at F;refine⟨⟨none,s.len+n,s.cap⟩,w,?_,.refl _,i⟩;by_cases hn:n*te.size=0
   ·rcases zDW.1 hn with hn'|hn'
    ·subst hn';have b:s.len<=s.cap:=by simpa using hroom
     simp[Builtin.append_,run_underlying hu,run_underlying hu',sizeOf,typeInfo,hi,Builtin.lenOf,b,asInt,asIntOf,A]
    ·omega
   ·have d:¬n=0:=λe=>hn (by rw[e];simp);have g:¬te.size=0:=by omega
    simp[Builtin.append_,run_underlying hu,run_underlying hu',sizeOf,typeInfo,hi,Builtin.lenOf,hroom,asInt,asIntOf,B,C,p,hn,d,g,zeroValue,hz,u]
 ·have j:=j hroom;have y:¬(2^48<Builtin.nextslicecap (s.len+n) s.cap*te.bytes):=by
   have:=Wbs (s.len+n) s.cap hroom;have:Builtin.nextslicecap (s.len+n) s.cap*te.bytes<=2*(s.len+n)*te.bytes:=zAJ _ this;rw[zEL]at this;omega
  have m:¬(281474976710656<Builtin.nextslicecap (s.len+n) s.cap*te.bytes):=by simpa using y
  let q:=Question.appendCap (s.len+n) s.cap e
  let c:=q.cut (w.tape w.drawn q)
  have hc:s.len+n<=c:=by simp only[c,q,Question.cut];omega
  have H:=j c hc;refine⟨⟨some ⟨w.heap.size,0,none⟩,s.len+n,c⟩,{w with drawn:=w.drawn+1,heap:=w.heap.push (.cells (X++(List.replicate n z.cells.toList).flatten++(List.replicate (c-(s.len+n)) z.cells.toList).flatten).toArray e (0,0))},?_,⟨rfl,rfl,rfl,by simp⟩,H⟩;have hf:(Question.appendCap (s.len+n) s.cap e).forced=false:=rfl;have M:¬(9223372036854775807<(s.len:Int)+(n:Int)):=by omega
  have x:=WbV (P:=P) (w:=w.drew) (n:=s.len) W (show Rd w.drew.heap s.a X from V) rfl;by_cases hn:n*te.size=0
  ·rcases zDW.1 hn with hn'|hn'
   ·subst hn';have b:¬s.len<=s.cap:=by simpa using hroom
    have D:¬(281474976710656<Builtin.nextslicecap s.len s.cap*te.bytes):=by simpa using m
    have R:(Question.appendCap s.len s.cap e).forced=false:=rfl;have E:¬(9223372036854775807<(s.len:Int)):=by omega
    simp[Builtin.append_,run_underlying hu,run_underlying hu',sizeOf,typeInfo,hi,Builtin.lenOf,b,E,R,D,x,zeroValue,hz,u,newRow,asInt,asIntOf,A];refine⟨rfl,?_⟩;unfold World.alloc World.drew;simp[c,q]
   ·omega
  ·have d:¬n=0:=λe=>hn (by rw[e];simp);have g:¬te.size=0:=by omega
   simp[Builtin.append_,run_underlying hu,run_underlying hu',sizeOf,typeInfo,hi,Builtin.lenOf,hroom,M,hf,m,x,zeroValue,hz,u,newRow,asInt,asIntOf,B,C,p,hn,d,g];refine⟨rfl,?_⟩;unfold World.alloc World.drew;simp[c,q]
theorem Wl7 {P:Program}{t e ty:Nat}{ats:List TypeId}{te:TypeInfo}{d s:Sl}{K:aN}{w:World}(hu:P.underlying t=some (.slice e))(hi:P.info? e=some te)
 (h:Cpy d te.size s w.heap K):∃z w',(Builtin.copy_ (t::ats).toArray ty #[.slice d.a d.len d.cap,.slice s.a s.len s.cap]).run P w=.ok (.int .i64 z) w'/\ZP w w'/\K z w'.heap:=by
 obtain⟨p,r,i,y,m⟩:=h;have g:(Builtin.firstCells te.size (min s.len d.len) (.slice s.a s.len s.cap)).run P w=.ok p.toArray w:=by
  obtain⟨a,len,cap⟩:=s;cases a with
  | none=>simp only[Rd]at i;subst i;simp[Builtin.firstCells]
  | some a=>
   simp only at r i;simp only[Builtin.firstCells];rw[←r];exact run_loadCells_list (P:=P) (w:=w) a p (λj v B=>i j v B)
 have b:Nat.min s.len d.len=min s.len d.len:=rfl;cases hda:d.a with
 | none=>
  rw[hda]at m;refine⟨_,w,?_,.refl _,m⟩;simp[Builtin.copy_,run_underlying hu,sizeOf,typeInfo,hi,Builtin.lenOf,g,b,goInt]
 | some a=>
  rw[hda]at m;obtain⟨w',A,x,u⟩:=Gn (P:=P) y m;refine⟨_,w',?_,x,u⟩;simp[Builtin.copy_,run_underlying hu,sizeOf,typeInfo,hi,Builtin.lenOf,g,b,A,goInt]
theorem Wm8 {P:Program}{t e ty:Nat}{te:TypeInfo}{z:Value}{s:Sl}{K:aP}{w:World}(hu:P.underlying t=some (.slice e))(hi:P.info? e=some te)(hz:te.zero=some z)(hzs:z.cells.size=te.size)(hpos:0<te.size)
 (h:Clr s z.cells.toList w.heap K):∃w',(Builtin.clear_ #[t] ty #[.slice s.a s.len s.cap]).run P w=.ok (.tuple #[]) w'/\ZP w w'/\K w'.heap:=by
 obtain⟨j,h⟩:=h;have d:=VA (z:=z.cells) O;obtain⟨a,len,cap⟩:=s;cases a with
 | none=>exact⟨w,by simp[Builtin.clear_,run_underlying hu],.refl _,h⟩
 | some a=>
  simp only at h;cases len with
  | zero=>
   simp[StN]at h;exact⟨w,by simp[Builtin.clear_,run_underlying hu],.refl _,h⟩
  | succ n=>
   obtain⟨w',m,i,g⟩:=Gn (P:=P) (λv b=>by
    simp only[List.mem_flatten,zFE]at b;obtain⟨l,⟨_,rfl⟩,b⟩:=b;exact j v b) h
   refine⟨w',?_,i,g⟩;simp[Builtin.clear_,run_underlying hu,zeroValue,typeInfo,hi,hz,d,m]
theorem Wm5 {P:Program}{t len:Nat}{ps:List (Nat×Value)}{K:TypeId->List Value->Prop}(h:bsK P t len ps K):∃e te z cs,P.underlying t=some (.slice e)/\P.info? e=some te/\te.zero=some z/\K e cs ∧
 ((len=0/\ps=[]/\cs=[])\/(len*te.size<=16777216/\0<len*te.size/\z.cells.size=te.size/\WdP (λi=>some (i*te.size,te.size)) (List.replicate len z.cells.toList).flatten ps=some cs)):=by
 unfold bsK at h;split at h
 case h_2=>exact h.elim
 rename_i e hu;split at h
 case h_2=>exact h.elim
 rename_i te hi;split at h
 case h_2=>exact h.elim
 rename_i z hz;split at h
 ·exact⟨e,te,z,[],hu,hi,hz,h,.inl ⟨rfl,rfl,rfl⟩⟩
 ·exact h.elim
 ·rw[WH]at h;obtain⟨a,h⟩:=h;simp only[zF,zZ]at a;split at h
  case h_2=>exact h.elim
  rename_i cs hf;exact⟨e,te,z,cs,hu,hi,hz,h,.inr ⟨Nat.le_of_ble_eq_true a.1.1,Nat.blt_eq.mp a.1.2,a.2,hf⟩⟩
theorem WbY {z:Array Value}(hz:0<z.size)(n:Nat):((Array.range (n*z.size)).map (z[· % z.size]!))=(List.replicate n z.toList).flatten.toArray:=VA hz n
theorem WjL {P:Program}{ρ:Env}{K:Value->Hp->Prop}{a:Act}{w:World}(hf:∀x v,ev ρ x=some v->a.eval x=v)(o:Oper)(hk:eK P o.op o.type ρ w.heap K) :
 Vl P (execOp a.eval o) w K:=by
 obtain⟨dst,op,ty,pos,after,guard⟩:=o;simp only at hk;have p:∀{s:Sem Value},(∃v B,s.run P w=.ok v B/\ZP w B/\K v B.heap)->Vl P (do pure (Next.value (←s)):Sem Next) w K:=by
  rintro s ⟨v,B,hv,M,D⟩;exact .inl ⟨v,B,by simp[hv],M,D⟩
 have N:∀{s:Sem Unit},(∃B,s.run P w=.ok () B/\ZP w B/\K undef B.heap)->Vl P (do s;pure Next.skip:Sem Next) w K:=by
  rintro s ⟨B,hv,M,D⟩;exact .inr (.inl ⟨B,by simp[hv],M,D⟩)
 unfold eK at hk;split at hk
 case h_1 t x y=>
  obtain⟨va,J,hk0⟩:=Wq hk;clear hk;obtain⟨vx,hx,hk⟩:=Wq hk0;clear hk0;simp only[execOp,hf _ _ J,hf _ _ hx];split at hk
  ·rename_i ad;cases hraw:WcX P t
   case true=>
    rw[hraw]at hk;simp only[cond_true]at hk;rw[WH]at hk;obtain⟨hc,hif,s1,s2,D⟩:=hk;simp only[zF,zZ]at hc;obtain⟨h1,Z⟩:=hc;apply N;have hone:one1 vx=true:=by rcases hif with rfl|⟨t',u,rfl⟩<;>rfl
    have F:vx.cells = #[vx]:=by rcases hif with rfl|⟨t',u,rfl⟩<;>rfl
    have C:=Wim (P:=P) (w:=w) hone s1 s2;refine⟨w.setCell ad vx,?_,⟨rfl,rfl,rfl,Nat.le_of_eq (Vg w.heap ad vx).symm⟩,D⟩;have hr':(storeCells ad #[vx].toList).run P w=.ok () (w.setCell ad vx):=by
     simp only[storeCells,Addr.add_zero',Sem.run_bind,C,Result.andThen_ok];rfl
    simp only[Instr.storeAt,Instr.sureAddr,Sem.run_bind,Sem.run_pure,Result.andThen_ok,storeVar,QO h1,Z,F,ne_eq,zt];simpa using hr'
   rw[hraw]at hk;simp only[cond_false]at hk;rw[WH]at hk;obtain⟨hc,hk⟩:=hk;simp only[zF,zZ]at hc;obtain⟨h1,Z⟩:=hc;obtain⟨hk,h3⟩:=Wjj hk;apply N;obtain⟨B,C,M,D⟩:=WmJ (P:=P) h3 hk;refine⟨B,?_,M,D⟩;simp only[Instr.storeAt,Instr.sureAddr,Sem.run_bind,Sem.run_pure,Result.andThen_ok,storeVar,QO h1,Z,ne_eq,not_true_eq_false,zt];simpa using C
  ·exact hk.elim
 case h_2 e=>
  split at hk
  case h_2=>exact hk.elim
  rename_i Q L;split at hk
  case h_2=>exact hk.elim
  rename_i z U;apply p;refine⟨_,_,?_,Uz _ _,hk⟩;simp[Instr.alloc,VB L U,newVar,newRow,newObj,Sem.run]
 case h_3 e x=>
  obtain⟨v,hv,hk⟩:=Wq hk;simp only[execOp,hf _ _ hv];apply p;cases hraw:WcX P e
  case true=>
   rw[hraw]at hk;simp only[cond_true]at hk;have F:v.cells = #[v]:=by rcases hk.1 with rfl|⟨t',u,rfl⟩<;>rfl
   refine⟨_,_,?_,Uz _ _,hk.2⟩;simp[Instr.box,newVar,newRow,newObj,Sem.run,F]
  rw[hraw]at hk;refine⟨_,_,?_,Uz _ _,hk⟩;simp[Instr.box,newVar,newRow,newObj,Sem.run]
 case h_4 t len ps=>
  split at hk
  case h_2=>exact hk.elim
  rename_i vs hps;have H:=VZ hf hps;have d:ps.map (λ(i,x)=>(i,a.eval x))=vs.toArray:=by apply Array.ext';simpa using H
  obtain⟨e,Q,z,cs,E,L,U,hk,hcase⟩:=Wm5 hk;simp only[execOp,d];apply p;refine⟨_,_,?_,Uz _ _,hk⟩;rcases hcase with⟨rfl,rfl,rfl⟩|⟨hle,hpos,hzs,hfl⟩
  ·simp only[Instr.buildSlice,Sem.run_bind,run_underlying E,Result.andThen_ok,sizeOf,VX L,Sem.run_pure,zDX];simp[Instr.fill,newRow,newObj,Sem.run,Array.range_zero']
  have hts:0<Q.size:=Nat.pos_of_mul_pos_left hpos;have hfill:=UF _ _ _ _ hfl;have Y:=WbY (z:=z.cells) O len;rw[hzs]at Y;have hne:¬(len*Q.size=0):=by omega
  have hle':¬(len*Q.size>2^24):=by
   have:(2:Nat)^24=16777216:=by decide
   omega
  simp only[Instr.buildSlice,Sem.run_bind,run_underlying E,Result.andThen_ok,sizeOf,VX L,Sem.run_pure,hle',zt,hne,VB L U,Y,hzs,hfill,newRow,newObj,Sem.run]
 case h_5 t r=>
  split at hk
  ·apply p;refine⟨_,_,?_,Uz _ _,hk⟩;simp[Instr.makeMap,newObj,Sem.run]
  ·exact hk.elim
 case h_6 t l c=>
  obtain⟨vl,hl,hk⟩:=Wq hk;obtain⟨vc,hc,hk⟩:=Wq hk;simp only[execOp,hf _ _ hl,hf _ _ hc];split at hk
  case h_2=>exact hk.elim
  rename_i e n m E _;split at hk
  case h_2=>exact hk.elim
  rename_i Q L;split at hk
  case h_2=>exact hk.elim
  rename_i z U;rw[WH]at hk;obtain⟨j,h0,h1,Z,h3,hk⟩:=hk;simp only[zF,zZ]at j;have hpos:0<Q.size:=Nat.blt_eq.mp j.2;apply p;refine⟨_,_,?_,Uz _ _,hk⟩;have hwn:IntKind.i64.wrap n=n:=by unfold IntKind.wrap;simp[IntKind.bits,IntKind.signed];omega
  have hwm:IntKind.i64.wrap m=m:=by unfold IntKind.wrap;simp[IntKind.bits,IntKind.signed];omega
  have hbig:¬((Q.bytes:Int)*m>2^48):=by
   have:(2:Int)^46<=2^48:=by decide
   omega
  have hm0:¬m<0:=by omega
  have hn0:¬n<0:=by omega
  have hnm:¬n>m:=by omega
  have hnm':¬m<n:=by omega
  have Y:=WbY (z:=z.cells) O m.toNat;have hrz2:Array.map (λx=>z.cells[x%z.cells.size]!) (Array.range (m.toNat*Q.size))=(List.replicate m.toNat z.cells.toList).flatten.toArray:=by rw[←j.1];exact Y
  have S:¬(281474976710656<(Q.bytes:Int)*m):=by simpa using hbig
  by_cases hz0:m.toNat*Q.size=0
  ·have hmz:m.toNat=0:=by
    rcases zDW.1 hz0 with h|h
    ·exact h
    ·omega
   simp[Instr.makeSlice,run_underlying E,VX L,asInt,asIntOf,hwn,hwm,S,hm0,hn0,hnm,hnm',askRoom,mark,sizeOf,hmz,newRow];rw[show Array.range 0 = #[]from rfl];simp
  ·simp[Instr.makeSlice,run_underlying E,VX L,asInt,asIntOf,hwn,hwm,S,hm0,hn0,hnm,hnm',askRoom,mark,sizeOf,hz0,VB L U,newRow,hrz2];intro _;rfl
 case h_7 t x=>
  obtain⟨v,hv,G⟩:=Wq hk;obtain⟨kt,et,ki,c,E,X,R⟩:=WaH G;clear hk G;simp only[execOp,hf _ _ hv];split at R
  case h_2=>exact R.elim
  rename_i m;apply p;obtain⟨l,hm,D⟩:=R;cases m with
  | none=>
   refine⟨_,{w with heap:=w.heap.push (.mapIter none 0 #[] 0)},?_,Uz _ _,D _ aA (λb hb=>by simp[zFF,zEM hb]) ?_⟩
   ·simp[Instr.range,run_underlying E,newObj,Sem.run]
   ·simp only[MapO]at hm;exact⟨hm,hm,rfl,0,#[],0,by simp⟩
  | some b=>
   obtain⟨es,clk,C,he,hn,hp,hb⟩:=hm;have hlt:b<w.heap.size:=(zAQ.1 C).1;refine⟨_,{w with heap:=w.heap.push (.mapIter (some b) clk #[] clk)},?_,Uz _ _,D _ aA (λb hb=>by simp[zFF,zEM hb]) ?_⟩
   ·simp[Instr.range,run_underlying E,newObj,getObj,Sem.run,C]
   ·exact⟨es,clk,#[],by simp,by simp[zFF,zEM hlt,C],he,hn,hp,hb,by rw[zBK.2 (λe _=>by simp)];exact he,λx hx=>by cases hx⟩
 case h_8 t m k x=>
  obtain⟨vm,hm,G⟩:=Wq hk;obtain⟨vk,hkk,R⟩:=Wq G;obtain⟨vx,hx,hk3⟩:=Wq R;obtain⟨kt,et,ki,c,E,X,V⟩:=WaH hk3;clear hk G R hk3;simp only[execOp,hf _ _ hm,hf _ _ hkk,hf _ _ hx];split at V
  ·split at V
   ·rename_i e;subst e;obtain⟨x,rfl,r,l,rfl,hl,D⟩:=Uk V;apply N;obtain⟨B,C,M,ho,hl'⟩:=Wk7 (P:=P) E X (x:=x) hl;exact⟨B,C,M,D _ ho hl'⟩
   ·exact V.elim
  ·exact V.elim
 case h_9 c=>
  obtain⟨callee,A,ats⟩:=c;simp only at hk;split at hk
  ·rename_i f args' J;have H:=Z2 hf J;have d:A.map a.eval=args'.toArray:=by apply Array.ext';simpa using H
   have:=Wdi hk;simpa[execOp,resolve,d,Act.eval,Deferred.ofValue,invoke]using this
  ·rename_i g args' _ J;obtain⟨vg,hg,hk⟩:=Wq hk;obtain⟨fv,rfl,hk⟩:=Uk hk;have H:=Z2 hf J;have d:A.map a.eval=args'.toArray:=by apply Array.ext';simpa using H
   have:=WcN hk;simpa[execOp,resolve,d,hf _ _ hg,CK.v,Deferred.ofValue,invoke]using this
  ·rename_i r name args' J;obtain⟨vr,C,hk⟩:=Wq hk;have H:=Z2 hf J;have d:A.map a.eval=args'.toArray:=by apply Array.ext';simpa using H
   have:=Wf7 hk;simpa[execOp,resolve,d,hf _ _ C,invoke]using this
  ·rename_i sa sn sc xa xn xc t t' J ht;have H:=Z2 hf J;have d:A.map a.eval = #[.slice sa sn sc,.slice xa xn xc]:=by apply Array.ext';simpa using H
   have W:ats = #[t,t']:=by apply Array.ext';simpa using ht
   subst W;split at hk
   case h_2=>exact hk.elim
   rename_i e E;split at hk
   case h_2=>exact hk.elim
   rename_i Q L;split at hk
   case h_2=>exact hk.elim
   rename_i z U;rw[WH]at hk;obtain⟨j,hk⟩:=hk;simp only[zF,zZ]at j;obtain⟨⟨h1,Z⟩,h3⟩:=j;have ett:t=t':=zAK h1;subst ett;obtain⟨r,B,C,M,D⟩:=Wmy (P:=P) (ty:=ty) E L U Z (Nat.blt_eq.mp h3) hk;refine .inl ⟨_,B,?_,M,D⟩;simp only at C;simp[execOp,resolve,d,invoke,builtin,C]
  ·rename_i m k' n t ats' J ht;have H:=Z2 hf J;have d:A.map a.eval = #[.map m,.int k' n]:=by apply Array.ext';simpa using H
   have W:ats=(t::ats').toArray:=by apply Array.ext';simpa using ht
   subst W;obtain⟨kt,et,ki,c,E,X,G⟩:=WaH hk;clear hk;split at G
   ·rename_i e;subst e;obtain⟨l,hl,D⟩:=G;obtain⟨B,C,M,h1,Z,h3⟩:=WkC (P:=P) (ty:=ty) (ats:=ats') E X (n:=n) hl;refine .inl ⟨_,B,?_,M,D _ h1 Z h3⟩;simp[execOp,resolve,d,invoke,builtin,C]
   ·exact G.elim
  ·rename_i sa sn sc n t t' J ht;have H:=Z2 hf J;have d:A.map a.eval = #[.slice sa sn sc,.int .i64 n]:=by apply Array.ext';simpa using H
   have W:ats = #[t,t']:=by apply Array.ext';simpa using ht
   subst W;split at hk
   case h_2=>exact hk.elim
   rename_i e ki E hu';split at hk
   case h_2=>exact hk.elim
   rename_i Q L;split at hk
   case h_2=>exact hk.elim
   rename_i z U;rw[WH]at hk;obtain⟨j,hk⟩:=hk;simp only[zF,zZ]at j;obtain⟨r,B,C,M,D⟩:=WkK (P:=P) (ty:=ty) E hu' L U j.1 (Nat.blt_eq.mp j.2) hk;refine .inl ⟨_,B,?_,M,D⟩;simp only at C;simp[execOp,resolve,d,invoke,builtin,C]
  ·rename_i da dn dc xa xn xc t ats' J ht;have H:=Z2 hf J;have d:A.map a.eval = #[.slice da dn dc,.slice xa xn xc]:=by apply Array.ext';simpa using H
   have W:ats=(t::ats').toArray:=by apply Array.ext';simpa using ht
   subst W;split at hk
   case h_2=>exact hk.elim
   rename_i e E;split at hk
   case h_2=>exact hk.elim
   rename_i Q L;obtain⟨r,B,C,M,D⟩:=Wl7 (P:=P) (ty:=ty) (ats:=ats') E L hk;refine .inl ⟨_,B,?_,M,D⟩;simp only at C;simp[execOp,resolve,d,invoke,builtin,C]
  ·rename_i sa sn sc t J ht;have H:=Z2 hf J;have d:A.map a.eval = #[.slice sa sn sc]:=by apply Array.ext';simpa using H
   have W:ats = #[t]:=by apply Array.ext';simpa using ht
   subst W;split at hk
   case h_2=>exact hk.elim
   rename_i e E;split at hk
   case h_2=>exact hk.elim
   rename_i Q L;split at hk
   case h_2=>exact hk.elim
   rename_i z U;rw[WH]at hk;obtain⟨j,hk⟩:=hk;simp only[zF,zZ]at j;obtain⟨B,C,M,D⟩:=Wm8 (P:=P) (ty:=ty) E L U j.1 (Nat.blt_eq.mp j.2) hk;refine .inl ⟨_,B,?_,M,D⟩;simp only at C;simp[execOp,resolve,d,invoke,builtin,C]
  ·exact hk.elim
 ·exact hk.elim
theorem Wfl {k:IntKind}{c:CK}(p:MapEntry->Bool)(q:Int×c.T->Bool):∀(L:List MapEntry) (T:List (Int×c.T)),L.map (λe=>(e.key,e.val))=T.map (λx=>(Value.int k x.1,c.v x.2)) →
 (∀(j:Nat) (e:MapEntry) (y:Int×c.T),L[j]?=some e->T[j]?=some y->p e=q y)->(L.filter p).map (λe=>(e.key,e.val))=(T.filter q).map (λx=>(Value.int k x.1,c.v x.2))
 | [],T,h,_=>by
  cases T with
  | nil=>rfl
  | cons y T=>simp at h
 | e::L,[],h,_=>by simp at h
 | e::L,y::T,h,hpq=>by
  simp only[zJ,List.cons.injEq]at h;have h0:=hpq 0 e y rfl rfl;have a:=Wfl p q L T h.2 (λj i d b g=>hpq (j+1) i d (by simpa using b) (by simpa using g));simp only[zCK,h0];cases q y
  ·simpa using a
  ·simp[h.1,a]
theorem It.nxt {P:Program}{r:Nat}{k:IntKind}{c:CK}{m:Option Nat}{l todo:List (Int×c.T)}{cur:Option (Int×c.T)}{w:World}(hit:It w.heap r k c m l todo cur)(ty:Nat) :
 (todo=[]/\∃w',(Instr.next (.pointer (some ⟨r,0,none⟩)) false ty).run P w=.ok (.tuple #[.bool false]) w'/\ZP w w'/\w'.heap=w.heap) ∨
 (∃n x w',(n,x)∈todo/\(Instr.next (.pointer (some ⟨r,0,none⟩)) false ty).run P w=.ok (.tuple #[.bool true,.int k n,c.v x]) w'/\ZP w w'/\QD w.heap w'.heap r ∧
  It w'.heap r k c m l (todo.filter λy=>!(y.1==n)) (some (n,x))):=by
 cases m with
 | none=>
  obtain⟨rfl,rfl,rfl,s,q,y,hr⟩:=hit;exact .inl ⟨rfl,w,by simp[Instr.next,getObj,Sem.run,hr],.refl _,rfl⟩
 | some b=>
  obtain⟨es,clk,seen,hr,hb,he,hn,hp,hlt,htodo,hcur⟩:=hit;have hrlt:r<w.heap.size:=(zAQ.1 hr).1;have hrb:r≠b:=λe=>by rw[e,hb]at hr;cases hr
  have hchk:¬((!seen.isEmpty && !es.isEmpty&&es.all (·.born≥clk))=true):=by
   intro h;simp only[zF,zAW,Array.all_eq_true',zT]at h;obtain⟨⟨_,h2⟩,h3⟩:=h;have h2':es ≠ #[]:=by simpa[Array.isEmpty_iff]using h2
   obtain⟨e,hme⟩:=Array.exists_mem_of_ne_empty es h2';have:=h3 e hme;have:=hlt e (by simpa using hme);omega
  have hold:((es.filter λe=>!seen.contains e.born).filter (·.born<clk))=es.filter λe=>!seen.contains e.born:=by
   rw[Array.filter_eq_self];intro e hme;have:e∈es:=(Array.mem_filter.1 hme).1;simpa using hlt e (by simpa using this)
  have hnew:((es.filter λe=>!seen.contains e.born).filter (·.born≥clk)) = #[]:=by
   rw[Array.filter_eq_empty_iff];intro e hme;have:e∈es:=(Array.mem_filter.1 hme).1;have:=hlt e (by simpa using this);simp;omega
  have hlist:(es.filter λe=>!seen.contains e.born).toList=es.toList.filter λe=>!seen.contains e.born:=Array.toList_filter;have hrun:∀(cand:Array (Option MapEntry)),cand=(if(es.filter λe=>!seen.contains e.born).isEmpty then #[none]else #[])++(es.filter λe=>!seen.contains e.born).map some →
   (Instr.next (.pointer (some ⟨r,0,none⟩)) false ty).run P w=(do
    match cand[←choose (.mapNext cand.size)]? with
    | some (some e)=>do
     setObj r (.mapIter (some b) clk (seen.push e.born) clk)
     pure (.tuple #[.bool true,e.key,e.val])
    | some none=>pure (.tuple #[.bool false])
    | none=>stuck "Next: no such candidate" : Sem Value).run P w := by
   rintro cand rfl;simp only[Instr.next,getObj,Sem.run_bind,Sem.run,hr,Result.andThen_ok,hb,hchk,zt,hold,hnew,Array.append_empty,zb,Sem.run_bind]
   try rfl
  cases htd:todo with
  | nil=>
   left;subst htd;have hnil:(es.filter λe=>!seen.contains e.born) = #[]:=by
    apply Array.ext';rw[hlist];have:=congrArg List.length htodo;simpa using this
   refine⟨rfl,w,?_,.refl _,rfl⟩;rw[hrun #[none] (by rw[hnil];simp)];simp[choose,Sem.run,Question.forced]
  | cons y ys=>
   right;have hlen:(es.filter λe=>!seen.contains e.born).size=todo.length:=by
    rw[←zEN,hlist];simpa using congrArg List.length htodo
   have hne:(es.filter λe=>!seen.contains e.born).isEmpty=false:=by
    rw[htd]at hlen;simp only[zP]at hlen;cases hce:(es.filter λe=>!seen.contains e.born).isEmpty
    ·rfl
    ·rw[Array.isEmpty_iff]at hce;rw[hce]at hlen;simp at hlen
   have key:∀(i:Nat),i<todo.length->∀w1:World,w1.heap=w.heap->ZP w w1->∃n x w',(n,x)∈todo ∧
    ((match ((es.filter λe=>!seen.contains e.born).map some)[i]? with
     | some (some e)=>do
      setObj r (.mapIter (some b) clk (seen.push e.born) clk)
      pure (.tuple #[.bool true,e.key,e.val])
     | some none=>pure (.tuple #[.bool false])
     | none=>stuck "Next: no such candidate" : Sem Value)).run P w1 = .ok (.tuple #[.bool true, .int k n, c.v x]) w' /\ ZP w w' /\ QD w.heap w'.heap r ∧
    It w'.heap r k c (some b) l (todo.filter λy=>!(y.1==n)) (some (n,x)):=by
    intro i hi w1 hw1 io;have hi':i<(es.filter λe=>!seen.contains e.born).size:=by omega
    let e:=(es.filter λe=>!seen.contains e.born)[i]
    have hei:(es.filter λe=>!seen.contains e.born)[i]?=some e:=by simp[e,hi']
    have hti:(es.toList.filter λe=>!seen.contains e.born)[i]?=some e:=by rw[←hlist,zFB];exact hei
    have hty:todo[i]?=some todo[i]:=by simp[hi]
    have hkv:(e.key,e.val)=(Value.int k todo[i].1,c.v todo[i].2):=by
     have:=congrArg (λl=>l[i]?) htodo;simp only[zf,hti,hty,zg,Option.some.injEq]at this;exact this
    simp only[Prod.mk.injEq]at hkv;have hmemF:e∈es.toList.filter λe=>!seen.contains e.born:=zE hti;have hme:e∈es.toList:=(zH.1 hmemF).1;have hns:seen.contains e.born=false:=by simpa using(zH.1 hmemF).2
    refine⟨todo[i].1,todo[i].2,{w1 with heap:=w1.heap.setIfInBounds r (.mapIter (some b) clk (seen.push e.born) clk)},zc _,?_,?_,?_,?_⟩
    ·have hr1:w1.heap[r]?=some (.mapIter (some b) clk seen clk):=by rw[hw1];exact hr
     simp only[Array.getElem?_map,hei,zg,setObj,Sem.run_bind,Sem.run,hr1,Result.andThen_ok,Sem.run_pure,hkv.1,hkv.2]
    ·exact⟨io.1,io.2.1,io.2.2.1,by simp only[Array.size_setIfInBounds];exact io.2.2.2⟩
    ·rw[hw1];exact HC _ _ _
    ·rw[hw1];refine⟨es,clk,seen.push e.born,by simp[hrlt],?_,he,hn,hp,hlt,?_,λx hx=>?_⟩
     ·rw[zFC hrb];exact hb
     ·-- the rest
      have hinj:∀e'∈es.toList,(e'.born==e.born)=true->e'=e:=by
       intro e' h1 h2;have h2':e'.born=e.born:=by simpa using h2
       obtain⟨p,hp1,hp2⟩:=zDY h1;obtain⟨q,hq1,hq2⟩:=zDY hme;have hpw:=zAE.1 hp;rcases zCA p q with h|h|h
       ·have:=hpw p q (by simpa using hp1) (by simpa using hq1) h;simp[hp2,hq2,h2']at this
       ·subst h;rw[←hp2,hq2]
       ·have:=hpw q p (by simpa using hq1) (by simpa using hp1) h;simp[hp2,hq2,h2']at this
      have hf1:(es.toList.filter λe'=>!(seen.push e.born).contains e'.born)=(es.toList.filter λe'=>!seen.contains e'.born).filter λe'=>!(e'.born==e.born):=by
       rw[zGE];apply zFG;intro e' _;simp[Array.contains_eq_mem,Array.mem_push];rw[Bool.and_comm]
       congr 1
      rw[hf1];refine Wfl _ _ _ _ htodo λj e' y h1 h2=>?_;have hm':e'∈es.toList:=(zH.1 (zE h1)).1;have hkv':(e'.key,e'.val)=(Value.int k y.1,c.v y.2):=by
       have:=congrArg (λl=>l[j]?) htodo;simp only[zf,h1,h2,zg,Option.some.injEq]at this;exact this
      simp only[Prod.mk.injEq]at hkv'
      congr 1
      rw[zBD];constructor
      ·intro hb';have:=hinj e' hm' hb';subst this;have:=hkv'.1.symm.trans hkv.1;simp only[Value.int.injEq,zDO]at this;simpa using this
      ·intro hy;have hy':y.1=todo[i].1:=by simpa using hy
       have hkk:e'.key=e.key:=by rw[hkv'.1,hkv.1,hy']
       obtain⟨p,hp1,hp2⟩:=zDY hm';obtain⟨q,hq1,hq2⟩:=zDY hme;have hll:es.toList.length=l.length:=by simpa using congrArg List.length he
       have hk1:∀(p:Nat) (hp:p<es.toList.length),es.toList[p].key=.int k (l[p]' O).1:=by
        intro p hp;have:=congrArg (λl=>l[p]?) he;simp only[zf,gGe hp,gGe (show p<l.length by omega),zg,Option.some.injEq,Prod.mk.injEq]at this;exact this.1
       have e1:=hk1 p hp1;have e2:=hk1 q hq1;rw[hp2]at e1;rw[hq2]at e2;rw[hkk,e2]at e1;simp only[Value.int.injEq,zDO]at e1;have:p=q:=by
        have hnn:=zAE.1 hn;rcases zCA p q with h|h|h
        ·exact absurd (by rw[zCU,zCU];exact e1.symm) (hnn p q aE aE h)
        ·exact h
        ·exact absurd (by rw[zCU,zCU];exact e1) (hnn q p aE aE h)
       subst this;rw[←hp2,←hq2];simp
     ·cases hx;refine⟨e,hme,by simp,hkv.1,hkv.2⟩
   have hsz:((if(es.filter λe=>!seen.contains e.born).isEmpty then #[none]else #[])++(es.filter λe=>!seen.contains e.born).map some:Array (Option MapEntry))=(es.filter λe=>!seen.contains e.born).map some:=by
    rw[hne];simp
   rw[←htd];rw[hrun _ hsz.symm];have hpos:0<todo.length:=by rw[htd];simp
   simp only[Sem.run_bind,choose,Sem.run,Array.size_map,hlen];cases hfo:(Question.mapNext todo.length).forced
   ·simp only[zb,zt,Result.andThen_ok];exact key _ (by simp only[Question.cut];exact zDP _ hpos) _ rfl ⟨rfl,rfl,rfl,zD _⟩
   ·simp only[zS,Result.andThen_ok];exact key 0 hpos w rfl (.refl _)
theorem It.ent {P:Program}{r:Nat}{k:IntKind}{c:CK}{m:Option Nat}{l todo:List (Int×c.T)}{n:Int}{x:c.T}{w:World}(hit:It w.heap r k c m l todo (some (n,x))) :
 (Instr.entry (.pointer (some ⟨r,0,none⟩))).run P w=.ok (.tuple #[.int k n,c.v x]) w:=by
 cases m with
 | none=>obtain⟨_,_,h,_⟩:=hit;cases h
 | some b=>
  obtain⟨A,E,z,D,G,K,L,B,F,u,i⟩:=hit;obtain⟨e,y,d,C,H⟩:=i _ rfl;have g:A.find? (·.born==e.born)=some e:=by
   rw[←Array.find?_toList,List.find?_eq_some_iff_getElem];obtain⟨p,a,hp2⟩:=zDY y;refine⟨by simp,p,a,hp2,λj J=>?_⟩;have s:=zAE.1 B j p (by simp;simp at a;omega) (by simpa using a) J;rw[zCU,zCU,hp2]at s;rw[zAW];cases hb2:(A.toList[j].born==e.born)
   ·rfl
   ·have:=zZ.1 hb2;omega
  simp[Instr.entry,getObj,Sem.run,D,G,d,g,C,H]
def itK (k:IntKind)(c:CK)(o:Op)(ρ:Env)(h:Hp)(K:Value->Hp->Prop):Prop:=
 match o with
 | .next x false=>wv (ev ρ x) λv=>match v with
  | .pointer (some a)=>Nxt k c a h (K (.tuple #[.bool false]) h) λn y h'=>K (.tuple #[.bool true,.int k n,c.v y]) h'
  | _=>False
 | .entry x=>wv (ev ρ x) λv=>match v with
  | .pointer (some a)=>Ent k c a h λn y=>K (.tuple #[.int k n,c.v y]) h
  | _=>False
 | _=>False
theorem It.spot {a:Addr}(h:a.off=0):∃s,a=⟨a.block,0,s⟩:=⟨a.spot,by cases a;simp at h;subst h;rfl⟩
theorem Wf8 {P:Program}{k:IntKind}{c:CK}{ρ:Env}{K:Value->Hp->Prop}{a:Act}{w:World}(hf:∀x v,ev ρ x=some v->a.eval x=v)(o:Oper)(hk:itK k c o.op ρ w.heap K):Vl P (execOp a.eval o) w K:=by
 obtain⟨C,op,i,pos,g,j⟩:=o;simp only at hk;unfold itK at hk;split at hk
 ·rename_i x;obtain⟨v,r,hk⟩:=Wq hk;simp only[execOp,hf _ _ r];split at hk
  case h_2=>exact hk.elim
  rename_i ad;obtain⟨p,m,l,e,A,d,D,B⟩:=hk;obtain⟨s,u⟩:=It.spot p;have b:∀w:World,(Instr.next (.pointer (some ad)) false i).run P w=(Instr.next (.pointer (some ⟨ad.block,0,none⟩)) false i).run P w:=by
   intro w;rw[u];rfl
  rcases d.nxt (P:=P) i with⟨ht,w',hr,io,hh⟩|⟨n,y,w',hm,hr,io,ho,hi'⟩
  ·exact .inl ⟨.tuple #[.bool false],w',by simp[b,hr],io,by rw[hh];exact D ht⟩
  ·exact .inl ⟨.tuple #[.bool true,.int k n,c.v y],w',by simp[b,hr],io,B n y hm _ ho hi'⟩
 ·rename_i x;obtain⟨v,r,hk⟩:=Wq hk;simp only[execOp,hf _ _ r];split at hk
  case h_2=>exact hk.elim
  rename_i ad;obtain⟨p,m,l,e,n,y,d,z⟩:=hk;obtain⟨s,u⟩:=It.spot p;have b:(Instr.entry (.pointer (some ad))).run P w=(Instr.entry (.pointer (some ⟨ad.block,0,none⟩))).run P w:=by
   rw[u];rfl
  exact .inl ⟨.tuple #[.int k n,c.v y],w,by simp[b,d.ent (P:=P)],.refl _,z⟩
 ·exact hk.elim
structure Fits (N:Nat) (ρ:Env) (a:Act):Prop where
 defers:a.defers=[]
 size:a.tmps.size=N
 at_:∀i v,ρ i=some v->a.tmps[i]?=some v
theorem Fits.ev {N:Nat}{ρ:Env}{a:Act}(h:Fits N ρ a):∀x v,ev ρ x=some v->a.eval x=v:=by
 intro x v hx;cases x with
 | tmp t=>
  have:=h.at_ t v hx;simp[Act.eval,zCV,this]
 | const u=>simp only[Vc.ev,Option.some.injEq]at hx;exact hx
 | global g=>simp only[Vc.ev,Option.some.injEq]at hx;exact hx
 | func f=>simp only[Vc.ev,Option.some.injEq]at hx;exact hx
def Weo (N:Nat):Option Nat->Bool
 | some d=>Nat.blt d N
 | none=>true
theorem Fits.put {N:Nat}{ρ:Env}{a:Act}(h:Fits N ρ a){d:Option Nat}(hd:Weo N d=true)(v:Value):Fits N (ρ.putO d v) (a.put d v):=by
 cases d with
 | none=>exact h
 | some d=>
  have g:d<N:=Nat.blt_eq.mp hd;refine⟨h.defers,by simp[Act.put,h.size],λi u b=>?_⟩;simp only[Env.putO,Env.put]at b;cases hi:Nat.beq i d
  ·rw[hi]at b;have j:i≠d:=λe=>by subst e;simp at hi
   simp only[Act.put];rw[zFC (Ne.symm j)];exact h.at_ i u b
  ·rw[hi]at b;have e:i=d:=zAK hi;subst e;simp only[cond_true,Option.some.injEq]at b;subst b;simp[Act.put,h.size,g]
theorem Fits.weaken {N:Nat}{ρ ρ':Env}{a:Act}(h:Fits N ρ a)(hw:∀i v,ρ' i=some v->ρ i=some v):Fits N ρ' a:=
 ⟨h.defers,h.size,λi v b=>h.at_ i v (hw i v b)⟩
theorem Wd3 (ρ:Env)(ds:List Nat):∀i v,ρ.hide ds i=some v->ρ i=some v:=by
 intro i v h;simp only[Env.hide]at h;cases hc:ds.contains i<;>rw[hc]at h<;>simp at h
 exact h
theorem Fits.lit {N:Nat}{ρ:Env}{a:Act}(h:Fits N ρ a){c:Nat}{b b':Bool}(hc:ρ c=some (.bool b))(e:b=b'):Fits N (ρ.put c (.bool b')) a:=by
 subst e;refine h.weaken λi v d=>?_;simp only[Env.put]at d;cases hi:Nat.beq i c
 ·rw[hi]at d;exact d
 ·rw[hi]at d;have e:i=c:=zAK hi;subst e;rw[hc];exact d
def WaQ (ops:Array Oper)(o:Oper)(ρ:Env):Bool:=
 match o.guard with
 | none=>true
 | some (j,want)=>match (ops[j]?).bind (·.dst)with
  | some c=>match ρ c with
   | some (.bool b)=>b==want
   | _=>false
  | none=>false
def Wd7 (ops:Array Oper)(o:Oper)(ρ:Env):Bool:=
 match o.guard with
 | none=>false
 | some (j,want)=>match (ops[j]?).bind (·.dst)with
  | some c=>match ρ c with
   | some (.bool b)=>!(b==want)
   | some (.tuple _)=>true
   | _=>false
  | none=>false
theorem Qb {N:Nat}{ops:Array Oper}{o:Oper}{ρ:Env}{a:Act}(hf:Fits N ρ a)(h:WaQ ops o ρ=true):Region.wanted o (yielded ops a.tmps)=true:=by
 unfold WaQ at h;unfold Region.wanted;cases hg:o.guard with
 | none=>rfl
 | some jw=>
  obtain⟨j,d⟩:=jw;rw[hg]at h;simp only at h ⊢;cases hc:(ops[j]?).bind (·.dst)with
  | none=>rw[hc]at h;cases h
  | some c=>
   rw[hc]at h;simp only at h;split at h
   ·rename_i b hb;have:=hf.at_ c _ hb;simp only[yielded,hc,zFH,this];simpa using h
   ·cases h
theorem Vz {N:Nat}{ops:Array Oper}{o:Oper}{ρ:Env}{a:Act}(hf:Fits N ρ a)(h:Wd7 ops o ρ=true):Region.wanted o (yielded ops a.tmps)=false:=by
 unfold Wd7 at h;unfold Region.wanted;cases hg:o.guard with
 | none=>rw[hg]at h;cases h
 | some jw=>
  obtain⟨j,d⟩:=jw;rw[hg]at h;simp only at h ⊢;cases hc:(ops[j]?).bind (·.dst)with
  | none=>rw[hc]at h;cases h
  | some c=>
   rw[hc]at h;simp only at h;split at h
   ·rename_i b hb;have:=hf.at_ c _ hb;simp only[yielded,hc,zFH,this];simpa using h
   ·rename_i b hb;have:=hf.at_ c _ hb;simp only[yielded,hc,zFH,this];rfl
   ·cases h
def Ga (N:Nat)(ops:Array Oper):List Oper->Env->Bool
 | [],_=>true
 | o::os,ρ=>Wd7 ops o ρ&&(Weo N o.dst&&Ga N ops os (ρ.putO o.dst undef))
theorem Wif {P:Program}{N:Nat}{ops:Array Oper}{Q:Exit->Act->World->Prop}{tail:List Oper}{w:World}:∀{os:List Oper} {ρ:Env} {a:Act},Ga N ops os ρ=true->Fits N ρ a →
 (∀a',Fits N (ρ.hide (os.filterMap (·.dst))) a'->wpList P ops Q tail a' w)->wpList P ops Q (os++tail) a w
 | [],ρ,a,_,hf,h=>h a (hf.weaken (Wd3 _ _))
 | o::os,ρ,a,hs,hf,h=>by
  simp only[Ga,zF]at hs;obtain⟨h1,h2,h3⟩:=hs;have m:=Vz hf h1;simp only[zAL,wpList,m];refine Wif h3 (hf.put h2 _) λa' e=>h a' (e.weaken λi v b=>?_);simp only[Env.hide]at b ⊢;cases hc:(List.filterMap (·.dst) (o::os)).contains i
  ·rw[hc]at b;simp only[cond_false]at b;have g:(List.filterMap (·.dst) os).contains i=false:=by
    cases hd:o.dst<;>simp_all
   have j:∀d,o.dst=some d->i≠d:=by
    intro d hd;simp_all
   rw[g];simp only[cond_false];cases hd:o.dst with
   | none=>exact b
   | some d=>
    have:=j d hd;simp only[Env.putO,Env.put];have:Nat.beq i d=false:=by
     cases hb:Nat.beq i d
     ·rfl
     ·exact absurd (zAK hb) this
    rw[this];exact b
  ·rw[hc]at b;cases b
theorem WbL {P:Program}{N:Nat}{ops:Array Oper}{Q:Act->Prop}{tail:List Oper}{w:World}:∀{os:List Oper} {ρ:Env} {a:Act},Ga N ops os ρ=true->Fits N ρ a →
 (∀a',Fits N (ρ.hide (os.filterMap (·.dst))) a'->wpStill P ops w Q tail a')->wpStill P ops w Q (os++tail) a
 | [],ρ,a,_,hf,h=>h a (hf.weaken (Wd3 _ _))
 | o::os,ρ,a,hs,hf,h=>by
  simp only[Ga,zF]at hs;obtain⟨h1,h2,h3⟩:=hs;have m:=Vz hf h1;simp only[zAL,wpStill,m];refine WbL h3 (hf.put h2 _) λa' e=>h a' (e.weaken λi v b=>?_);simp only[Env.hide]at b ⊢;cases hc:(List.filterMap (·.dst) (o::os)).contains i
  ·rw[hc]at b;simp only[cond_false]at b;have g:(List.filterMap (·.dst) os).contains i=false:=by
    cases hd:o.dst<;>simp_all
   have j:∀d,o.dst=some d->i≠d:=by
    intro d hd;simp_all
   rw[g];simp only[cond_false];cases hd:o.dst with
   | none=>exact b
   | some d=>
    have:=j d hd;simp only[Env.putO,Env.put];have:Nat.beq i d=false:=by
     cases hb:Nat.beq i d
     ·rfl
     ·exact absurd (zAK hb) this
    rw[this];exact b
  ·rw[hc]at b;cases b
def JnB (K:aO)(body:(Bool->Hp->Prop)->Prop):Prop:=∃J:Bool->Hp->Prop,(∀r h,J r h->K r h)/\body J
theorem JnB.intro {K:aO}{body:(Bool->Hp->Prop)->Prop}(h:body K):JnB K body:=⟨K,λ_ _ h=>h,h⟩
inductive RI where
 | op
 | it (k:IntKind) (c:CK)
 | grd (and:Bool) (n:Nat) (inner:List RI)
def isC (b:Bool):Operand->Bool
 | .const (.bool b')=>b'==b
 | _=>false
def Hy (ρ:Env)(x:Operand)(K:Bool->Prop):Prop:=match ev ρ x with
 | some (.bool r)=>K r
 | _=>False
def cIs (ρ:Env)(c:Nat)(b:Bool):Bool:=match ρ c with
 | some (.bool b')=>b'==b
 | _=>false
def opsK (P:Program)(N:Nat)(ops:Array Oper):Nat->List RI->List Oper->Env->Hp->(Env->Hp->Prop)->Prop
 | 0,_,_,_,_,_=>False
 | _+1,[],[],ρ,h,K=>K ρ h
 | n+1,.op::hs,o::os,ρ,h,K=>chk (WaQ ops o ρ&&Weo N o.dst) (opK P o.op o.type ρ h λv h'=>opsK P N ops n hs os (ρ.putO o.dst v) h' K)
 | n+1,.it ki c::hs,o::os,ρ,h,K=>chk (WaQ ops o ρ&&Weo N o.dst) (itK ki c o.op ρ h λv h'=>opsK P N ops n hs os (ρ.putO o.dst v) h' K)
 | n+1,.grd and m inner::hs,os,ρ,h,K=>
  match os.drop m with
  | pk::rest=>match pk.op,pk.dst with
   | .pick (.tmp c) x y,some d=>match ρ c with
    | some (.bool b)=>chk (Nat.blt d N&&(isC (!and) (bif and then y else x)&&(WaQ ops pk (ρ.hide ((os.take m).filterMap (·.dst)))&&(cIs ((ρ.put c (.bool (!and))).hide ((os.take m).filterMap (·.dst))) c (!and)&&Ga N ops (os.take m) (ρ.put c (.bool (!and)))))))
     (JnB (λr h'=>opsK P N ops n hs rest ((ρ.hide ((os.take m).filterMap (·.dst))).put d (.bool r)) h' K) λJ=>
      bif and then If b (opsK P N ops n inner (os.take m) (ρ.put c (.bool true)) h λρ' h'=>chk (WaQ ops pk ρ'&&cIs ρ' c true) (Hy ρ' x λr=>J r h')) (J false h)
      else If b (J true h) (opsK P N ops n inner (os.take m) (ρ.put c (.bool false)) h λρ' h'=>chk (WaQ ops pk ρ'&&cIs ρ' c false) (Hy ρ' y λr=>J r h')))
    | _=>False
   | _,_=>False
  | []=>False
 | _,_,_,_,_,_=>False
theorem WbC {P:Program}{ρ:Env}{K:Value->Hp->Prop}{a:Act}{w:World}(hf:∀x v,ev ρ x=some v->a.eval x=v)(o:Oper)(hk:opK P o.op o.type ρ w.heap K) :
 Vl P (execOp a.eval o) w K:=by
 unfold opK at hk;cases hq:isQ o.op
 ·rw[hq]at hk;exact WjL hf o hk
 ·rw[hq]at hk;obtain⟨v,b,d⟩:=G6 hf o hk;exact .inl ⟨v,w,b,.refl _,d⟩
theorem UD {ρ:Env}{x:Operand}{K:Bool->Prop}(h:Hy ρ x K):∃r,ev ρ x=some (.bool r)/\K r:=by
 unfold Hy at h;split at h
 ·exact⟨_,by assumption,h⟩
 ·exact h.elim
theorem Wf5 {b:Bool}{x:Operand}(h:isC b x=true)(ρ:Operand->Value)(hc:∀v,ρ (.const v)=v):ρ x=.bool b:=by
 unfold isC at h;split at h
 ·rw[hc];simp at h;rw[h]
 ·cases h
theorem WeT {P:Program}{a:Act}{w:World}{o:Oper}{c x y:Operand}{b r:Bool}{K:Value->Hp->Prop}(ho:o.op=.pick c x y)(hc:a.eval c=.bool b)(hr:a.eval (bif b then x else y)=.bool r)(hK:K (.bool r) w.heap) :
 Vl P (execOp a.eval o) w K:=by
 obtain⟨g,op,i,pos,d,e⟩:=o;simp only at ho;subst ho;refine .inl ⟨_,w,?_,.refl _,hK⟩;cases b<;>simp at hr<;>simp[execOp,hc,asBool,hr]
def UM (os:List Oper)(ρ ρ':Env):Prop:=∀i,(os.filterMap (·.dst)).contains i=false->∀v,ρ i=some v->ρ' i=some v
theorem UM.cons {o:Oper}{os:List Oper}{ρ ρ':Env}{v:Value}(h:UM os (ρ.putO o.dst v) ρ'):UM (o::os) ρ ρ':=by
 intro i hi u hu;cases hd:o.dst with
 | none=>rw[hd]at h;exact h i (by simpa[hd]using hi) u hu
 | some d=>
  rw[hd]at h;simp[hd]at hi;refine h i (by simpa using hi.2) u ?_;simp only[Env.putO,Env.put];have:Nat.beq i d=false:=by
   cases hb:Nat.beq i d
   ·rfl
   ·exact absurd (zAK hb) hi.1
  rw[this];exact hu
theorem UM.grd {os rest:List Oper}{pk:Oper}{m d:Nat}{ρ ρ':Env}{r:Bool}(hd:pk.dst=some d)(hdrop:os.drop m=pk::rest)(h:UM rest ((ρ.hide ((os.take m).filterMap (·.dst))).put d (.bool r)) ρ'):UM os ρ ρ':=by
 intro i hi u hu;rw[←zBE m os,hdrop,zDZ,zGF,hd]at hi;simp only[zCW,zR,zQ,decide_eq_false_iff_not,not_or]at hi;refine h i (by simpa using hi.2.2) u ?_;simp only[Env.put,Env.hide];have:Nat.beq i d=false:=by
  cases hb:Nat.beq i d
  ·rfl
  ·exact absurd (zAK hb) hi.2.1
 rw[this];have a:((os.take m).filterMap (·.dst)).contains i=false:=by simpa using hi.1
 rw[a];exact hu
theorem Fits.seg {N:Nat}{os:List Oper}{ρ ρ':Env}{a:Act}{c:Nat}{b b':Bool}(h:Fits N ρ' a)(hc:ρ c=some (.bool b))(e:b=b')(k:UM os (ρ.put c (.bool b')) ρ'):Fits N (ρ.hide (os.filterMap (·.dst))) a:=by
 refine h.weaken λi v d=>?_;simp only[Env.hide]at d;cases hci:(os.filterMap (·.dst)).contains i
 ·rw[hci]at d;refine k i hci v ?_;simp only[Env.put];cases hb:Nat.beq i c
  ·exact d
  ·have g:i=c:=zAK hb;subst g;simp only[cond_false]at d;rw[hc]at d;simp only[cond_true];rw[←e];exact d
 ·rw[hci]at d;cases d
theorem G0 {ρ:Env}{c:Nat}{b:Bool}(h:cIs ρ c b=true):ρ c=some (.bool b):=by
 unfold cIs at h;split at h
 ·rename_i b' hb;simp at h;rw[hb,h]
 ·cases h
theorem KY {P:Program}{N:Nat}{ops:Array Oper}{Q:Exit->Act->World->Prop}:∀(n:Nat) {hs:List RI} {os:List Oper} {tail:List Oper} {ρ:Env} {a:Act} {w:World} {K:Env->Hp->Prop},
 opsK P N ops n hs os ρ w.heap K->Fits N ρ a->(∀ρ' a' w',Fits N ρ' a'->ZP w w'->UM os ρ ρ'->K ρ' w'.heap->wpList P ops Q tail a' w')->wpList P ops Q (os++tail) a w
 | 0,_,_,_,_,_,_,_,h,_,_=>(by simp only[opsK]at h)
 | n+1,[],[],tail,ρ,a,w,K,h,hf,hK=>by
  simp only[opsK]at h;exact hK ρ a w hf (.refl _) (λ_ _ _ h=>h) h
 | n+1,[],o::os,tail,ρ,a,w,K,h,hf,hK=>(by simp only[opsK]at h)
 | n+1,.op::hs,[],tail,ρ,a,w,K,h,hf,hK=>(by simp only[opsK]at h)
 | n+1,.op::hs,o::os,tail,ρ,a,w,K,h,hf,hK=>by
  simp only[opsK]at h;rw[WH]at h;obtain⟨hc,h⟩:=h;simp only[zF]at hc;have U:=Qb hf hc.1;simp only[zAL,wpList,U,zS];refine .inl (Vl.upon (WbC hf.ev o h) λv w' F s=>?_);exact KY n s (hf.put hc.2 v) λρ' a' A g j E u=>hK ρ' a' A g (F.trans j) E.cons u
 | n+1,.it ki c::hs,[],tail,ρ,a,w,K,h,hf,hK=>(by simp only[opsK]at h)
 | n+1,.it ki c::hs,o::os,tail,ρ,a,w,K,h,hf,hK=>by
  simp only[opsK]at h;rw[WH]at h;obtain⟨hc,h⟩:=h;simp only[zF]at hc;have U:=Qb hf hc.1;simp only[zAL,wpList,U,zS];refine .inl (Vl.upon (Wf8 hf.ev o h) λv w' F s=>?_);exact KY n s (hf.put hc.2 v) λρ' a' A g j E u=>hK ρ' a' A g (F.trans j) E.cons u
 | n+1,.grd and m inner::hs,os,tail,ρ,a,w,K,h,hf,hK=>by
  simp only[opsK]at h;split at h
  case h_2=>exact h.elim
  rename_i pk rest hdrop;split at h
  case h_2=>exact h.elim
  rename_i c x y d hop hd;split at h
  case h_2=>exact h.elim
  rename_i b hb;rw[WH]at h;obtain⟨hc,J,hJ,h⟩:=h;simp only[zF]at hc;obtain⟨G,R,Y,hcc,C⟩:=hc;have hdN':Weo N pk.dst=true:=by rw[hd];exact G
  have X:os++tail=os.take m++(pk::rest++tail):=by
   rw[←hdrop,←zz,zBE]
  rw[X];have p:∀(r b':Bool) (z:Operand) a' w',b=b'->(bif b' then x else y)=z->Fits N (ρ.hide ((os.take m).filterMap (·.dst))) a'->ZP w w'->J r w'.heap->Region.wanted pk (yielded ops a'.tmps)=true →
   a'.eval (.tmp c)=.bool b'->a'.eval z=.bool r->wpList P ops Q (pk::rest++tail) a' w':=by
   intro r b' z a' w' e ez g F V U D hez;simp only[zAL,wpList,U,zS];refine .inl (Vl.upon (K:=λv h'=>v=.bool r/\h'=w'.heap) (WeT hop D (by rw[ez];exact hez) ⟨rfl,rfl⟩) λv A j s=>?_);obtain⟨rfl,hh⟩:=s;have W:=g.put (d:=some d) G (.bool r);rw[hd];have M:=hJ _ _ V;rw[←hh]at M;exact KY n M W λρ' aa w3 H S E u=>hK ρ' aa w3 H ((F.trans j).trans S) (UM.grd hd hdrop E) u
  have run:∀(b':Bool) (z:Operand),b=b'->(bif b' then x else y)=z →
   opsK P N ops n inner (os.take m) (ρ.put c (.bool b')) w.heap (λρ' h'=>chk (WaQ ops pk ρ'&&cIs ρ' c b') (Hy ρ' z λr=>J r h'))->wpList P ops Q (os.take m++(pk::rest++tail)) a w:=by
   intro b' z e ez hseg;refine KY n hseg (hf.lit hb e) λρ' a' w' g F E s=>?_;rw[WH]at s;simp only[zF]at s;obtain⟨⟨hg,Z⟩,s⟩:=s;obtain⟨r,hr,V⟩:=UD s;exact p r b' z a' w' e ez (g.seg hb e E) F V (Qb g hg) (g.ev _ _ (G0 Z)) (g.ev _ _ hr)
  have B:∀(b':Bool),b=b'->b' = !and->J (!and) w.heap->wpList P ops Q (os.take m++(pk::rest++tail)) a w:=by
   intro b' e eb V;subst eb;refine Wif C (hf.lit hb e) λa' g=>?_;have L:Fits N (ρ.hide ((os.take m).filterMap (·.dst))) a':=g.seg (ρ':=(ρ.put c (.bool (!and))).hide ((os.take m).filterMap (·.dst))) hb e (λi hi v hv=>by simp only[Env.hide,hi];exact hv);have D:=g.ev (.tmp c) _ (G0 hcc);refine p (!and) (!and) (bif (!and)then x else y) a' w e rfl L (.refl _) V (Qb L Y) D ?_;refine Wf5 ?_ _ (λv=>rfl);cases and<;>exact R
  cases and
  ·simp only[cond_false]at h;cases b
   ·exact run false y rfl rfl (h.f rfl)
   ·exact B true rfl rfl (h.t rfl)
  ·simp only[cond_true]at h;cases b
   ·exact B false rfl rfl (h.f rfl)
   ·exact run true x rfl rfl (h.t rfl)
variable {P:Program}{ops:Array Oper}{Q:Exit->Act->World->Prop}
def WiT (ops:Array Oper)(k i:Nat):Bool:=match ops[k]? with
 | none=>false
 | some o=>o.after.toList.any λe=>Region.binds .any e&&Nat.beq e.on i
def TS (S:World->Prop)(C:List Nat)(listed:Array Bool)(w:World):Prop:=S w\/∃k∈C,listed.getD k false=true
def anyS (P:Program)(ops:Array Oper)(Q:Exit->Act->World->Prop)(S:World->Prop)(C:List Nat):Nat->Array Bool->Act->World->Prop
 | 0,listed,a,w=>Region.ready .any ops listed=[]/\Q .normal a w
 | m+1,listed,a,w=>(Region.ready .any ops listed=[]->Q .normal a w) ∧
  ∀i,i∈Region.ready .any ops listed->wpOp P ops Q i (λa' w'=>TS S C (listed.setIfInBounds i true) w'/\anyS P ops Q S C m (listed.setIfInBounds i true) a' w') a w
theorem Wao {S:World->Prop}{C:List Nat}:∀(m:Nat) (listed:Array Bool) (a:Act) (w:World),anyS P ops Q S C m listed a w->wpAny P .any ops Q m listed a w
 | 0,_,_,_,h=>h
 | m+1,_,_,_,h=>⟨h.1,λi hi=>wpOp_mono (λ_ _ h'=>Wao m _ _ _ h'.2) (h.2 i hi)⟩
theorem TS.out {S:World->Prop}{C:List Nat}{listed:Array Bool}{w:World}(h:TS S C listed w)(hn:∀k∈C,listed.getD k false=false):S w:=by
 rcases h with h|⟨k,hk,hl⟩
 ·exact h
 ·rw[hn k hk]at hl;cases hl
theorem WjY {k i:Nat}{o:Oper}(ho:ops[k]?=some o)(hno:∀e∈o.after,Region.binds .any e=true->e.on≠i):WiT ops k i=false:=by
 unfold WiT;rw[ho];simp only;rw[zAX];intro e he hb;simp only[zF]at hb;exact hno e (by simpa using he) hb.1 (zAK hb.2)
theorem TS.drop {S:World->Prop}{C:List Nat}{listed:Array Bool}{w:World}{i j:Nat}(hij:i≠j)(hi:∀k∈C,k≠i)(h:TS S C ((listed.setIfInBounds i true).setIfInBounds j true) w):TS S C (listed.setIfInBounds j true) w:=by
 refine h.imp id ?_;rintro⟨k,hk,hl⟩;refine⟨k,hk,?_⟩;rw[Array.setIfInBounds_comm _ _ hij,getD_set_ne false (Ne.symm (hi k hk))]at hl;exact hl
theorem Wgo {S T:World->Prop}{C:List Nat}{i:Nat}{oi:Oper}{v:Value}(hi:ops[i]?=some oi)(hsel:∀(j:Nat) (o:Oper) cs b,ops[j]?=some o->o.op≠.select cs b)
 (hQ:∀c a w,Q (.panic c) (a.put oi.dst v) w->Q (.panic c) a w) (hiC:∀k∈C,k≠i) (hT:(∀w,T w)\/((∀w,S w->T w)/\∀k∈C,WiT ops k i=true)) :
 ∀(m:Nat) (listed:Array Bool) (a:Act) (w:World),
  (∀j oj,ops[j]?=some oj->j≠i->listed.getD j true=false->(∀e∈oj.after,Region.binds .any e=true->e.on≠i)->oi.apart ops oj=true) →
  i∈Region.ready .any ops listed->((∀w,T w)\/∀k∈C,listed.getD k false=false)->YieldsIf P ops T oi v a->TS S C listed w →
  anyS P ops Q S C m (listed.setIfInBounds i true) (a.put oi.dst v) w->anyS P ops Q S C (m+1) listed a w:=by
 have s:∀{listed:Array Bool} {a:Act} {w:World} {K:Act->World->Prop},((∀w,T w)\/∀k∈C,listed.getD k false=false)->YieldsIf P ops T oi v a->TS S C listed w->K (a.put oi.dst v) w →
  wpOp P ops Q i (λL B=>TS S C (listed.setIfInBounds i true) B/\K L B) a w:=by
  intro listed a w K g hy hS hK;refine hy.wpOp hi ?_ ⟨?_,hK⟩
  ·rcases hT with hT|⟨hT,_⟩
   ·exact hT w
   ·rcases g with g|g
    ·exact g w
    ·exact hT w (hS.out g)
  ·refine hS.imp id ?_;rintro⟨k,u,hl⟩;exact⟨k,u,by rw[getD_set_ne false (Ne.symm (hiC k u))];exact hl⟩
 intro m
 induction m with
 | zero=>
  intro listed a w _ hr g hy hS H;refine⟨λh=>by rw[h]at hr;simp at hr,λj D=>?_⟩;by_cases hji:j=i
  ·rw[hji];exact s g hy hS H
  ·have p:=ready_mono D hji;rw[H.1]at p;simp at p
 | succ m ih=>
  intro listed a w hfree hr g hy hS H;refine⟨λh=>by rw[h]at hr;simp at hr,λj D=>?_⟩;by_cases hji:j=i
  ·rw[hji];exact s g hy hS H
  ·obtain⟨x,oj,r,A⟩:=mem_ready.1 D;have d:=(mem_ready.1 hr).1;have y:∀e∈oj.after,Region.binds .any e=true->e.on≠i:=by
    intro e he hb heq;have p:=A e he hb;rw[heq]at p;rw[zCV]at p d;cases hg:listed[i]? with
    | none=>rw[hg]at p;cases p
    | some b=>rw[hg]at p d;simp only[zBU]at p d;rw[d]at p;cases p
   have M:=wpOp_putIf r (hfree j oj r hji x y) (λcs b=>hsel i oi cs b hi) (λcs b=>hsel j oj cs b r) hQ hy (H.2 j (ready_mono D hji));refine wpOp_mono (λL B G=>?_) M;have z:=G.2.1.drop (Ne.symm hji) hiC;refine⟨z,ih _ L B (λk ok u F E J=>?_) (ready_mono hr (Ne.symm hji)) ?_ G.1 z ?_⟩
   ·refine hfree k ok u F ?_ J;by_cases hjk:j=k
    ·rw[←hjk];exact x
    ·rwa [getD_set_ne true hjk]at E
   ·rcases hT with hT|⟨_,hw⟩
    ·exact .inl hT
    refine g.imp id λg k u=>?_;by_cases hjk:j=k
    ·exfalso;have:=hw k u;rw[←hjk,WjY r y]at this;cases this
    ·rw[getD_set_ne false hjk];exact g k u
   ·rw[Array.setIfInBounds_comm _ _ hji];exact G.2.2
theorem Wa0 {S T:World->Prop}{C:List Nat}{i m:Nat}{oi:Oper}{v:Value}{listed:Array Bool}{a:Act}{w:World}(hi:ops[i]?=some oi)(hs:Region.noSelect ops=true)(hf:Region.free .any ops listed i=true)
 (hr:i∈Region.ready .any ops listed) (hQ:∀c a w,Q (.panic c) (a.put oi.dst v) w->Q (.panic c) a w) (hiC:C.contains i=false)
 (hT:(∀w,T w)\/((∀w,S w->T w)/\∀k∈C,WiT ops k i=true)) (hn:(∀w,T w)\/∀k∈C,listed.getD k false=false) (hy:YieldsIf P ops T oi v a) (hS:TS S C listed w)
 (h:anyS P ops Q S C m (listed.setIfInBounds i true) (a.put oi.dst v) w):anyS P ops Q S C (m+1) listed a w:=
 Wgo hi (Region.noSelect_spec hs) hQ (λk b e=>by subst e;rw[zDC.2 b]at hiC;cases hiC) hT m listed a w (Region.free_spec hi hf) hr hn hy hS h
theorem WjZ {S:World->Prop}{C:List Nat}{rs:List Nat}{m:Nat}{listed:Array Bool}{a:Act}{w:World}(hr:Region.ready .any ops listed=rs)(hne:rs≠[])
 (h:∀i∈rs,wpOp P ops Q i (λa' w'=>TS S C (listed.setIfInBounds i true) w'/\anyS P ops Q S C m (listed.setIfInBounds i true) a' w') a w):anyS P ops Q S C (m+1) listed a w:=
 ⟨λb=>absurd (hr▸b) hne,hr▸h⟩
theorem Wjn {S:World->Prop}{C:List Nat}{listed:Array Bool}{a:Act}{w:World}(hr:Region.ready .any ops listed=[])(h:Q .normal a w):∀m,anyS P ops Q S C m listed a w
 | 0=>⟨hr,h⟩
 | _+1=>⟨λ_=>h,by rw[hr];simp⟩
theorem UR {S:World->Prop}{C:List Nat}{id:Nat}{a:Act}{w:World}(hm:P.follows .mixedOrders=true)
 (h:anyS P ops Q S C ops.size (Array.replicate ops.size false) a {w with drawn:=w.drawn+1}):(Code.region id ops true).wp P Q a w:=
 wp_region_any hm (Wao _ _ _ _ h)
end Go.Vc
namespace Go.Vc
open Go
def GL (P:Program):Op->Bool
 | .load _ _=>false
 | .lookup .. => false
 | .typeAssert .. => false
 | .convert s _ _=>match P.underlying s with
  | some (.slice _)=>false
  | _=>true
 | .call c=>match c.callee,c.argTypes.toList with
  | .builtin .len,[t]=>match P.underlying t with
   | some (.map _ _)=>false
   | some _=>true
   | none=>false
  | .builtin .cap,_=>true
  | .builtin .max,_=>true
  | .builtin .min,_=>true
  | _,_=>false
 | o=>isQ o
theorem Wey {op:BinOp}{k:IntKind}{x y:Int}{K:Value->Prop}(h:arK op k x y K):∃v,K v/\arK op k x y (· = v):=by
 cases op<;>simp only[arK,Ar,Nz,Nn]at h ⊢
 all_goals first
  | exact⟨_,h,rfl⟩
  | exact⟨_,h.2,h.1,rfl⟩
theorem Gz {op:BinOp}{b:Bool}{K:Value->Prop}(h:eqK op b K):∃v,K v/\eqK op b (· = v):=by
 cases op<;>simp only[eqK]at h ⊢ <;> first|exact h.elim|exact⟨_,h,rfl⟩
theorem WkB {P:Program}{op:BinOp}{t:Nat}{x y:Value}{K:Value->Prop}(h:nilK P op t x y K):∃v,K v/\nilK P op t x y (· = v):=by
 unfold nilK at h ⊢;split at h
 ·obtain⟨v,a,b⟩:=Gz h;exact⟨v,a,by simp only[*]⟩
 ·obtain⟨v,a,b⟩:=Gz h;exact⟨v,a,by simp only[*]⟩
 ·obtain⟨v,a,b⟩:=Gz h;exact⟨v,a,by simp only[*]⟩
 ·obtain⟨d,h⟩:=h;obtain⟨v,a,b⟩:=Gz h;exact⟨v,a,by simp only[*];trivial⟩
 ·exact h.elim
theorem WjN {P:Program}{op:BinOp}{t:Nat}{x y:Value}{K:Value->Prop}(h:binK P op t x y K):∃v,K v/\binK P op t x y (· = v):=by
 unfold binK at h ⊢;split at h
 ·split at h
  ·obtain⟨v,a,b⟩:=Wey h;exact⟨v,a,by simpa[*]using b⟩
  ·rename_i hne;cases op<;>simp only at h
   all_goals try exact h.elim
   ·obtain⟨v,a,b⟩:=Wey h;exact⟨v,a,by simpa[hne]using b⟩
   ·obtain⟨v,a,b⟩:=Wey h;exact⟨v,a,by simpa[hne]using b⟩
 ·split at h
  ·obtain⟨v,a,b⟩:=Gz h;exact⟨v,a,by simp only[*]⟩
  ·exact h.elim
 ·cases op<;>simp only at h ⊢ <;> first|exact h.elim|exact⟨_,h,rfl⟩
 ·exact h.elim
theorem Wld {P:Program}{op:BinOp}{t:Nat}{xs ys:List Value}{K:Value->Prop}(h:aggK P op t xs ys K):∃v,K v/\aggK P op t xs ys (· = v):=by
 unfold aggK at h ⊢;split at h
 case h_3=>exact h.elim
 all_goals
  rename_i hu;rw[WH]at h;obtain⟨e,h⟩:=h;split at h
  case h_2=>exact h.elim
  rename_i b hb;obtain⟨v,a,d⟩:=Gz h;exact⟨v,a,by simp only[hu,WH,hb];exact⟨e,d⟩⟩
theorem Whj {P:Program}{op:BinOp}{t:Nat}{y:Operand}{vx vy:Value}{K:Value->Prop}(h:Wh8 P op t y vx vy K):∃v,K v/\Wh8 P op t y vx vy (· = v):=by
 unfold Wh8 at h ⊢;cases hn:WdK y
 ·rw[hn]at h;simp only[cond_false]at h ⊢;split at h
  ·exact Wld h
  ·exact WjN h
 ·rw[hn]at h;exact WkB h
theorem WbI {o:Option Value}{K:Value->Prop}(h:wv o K):∃v,K v/\wv o (· = v):=by
 obtain⟨v,rfl,a⟩:=Wq h;exact⟨v,a,rfl⟩
theorem WjD {P:Program}{t off:Nat}{cs:List Value}{K:Value->Prop}(h:Wgi P t cs off K):∃v,K v/\Wgi P t cs off (· = v):=by
 unfold Wgi at h ⊢;split at h
 case h_2=>exact h.elim
 rename_i d ti hu hi;cases hd:Uy d
 ·rw[hd]at h;obtain⟨v,a,b⟩:=WbI h;exact⟨v,a,by simpa[hd]using b⟩
 ·rw[hd]at h;exact⟨_,h,by simp⟩
theorem Wlo {P:Program}{t:Nat}{ps:List (Nat×Value)}{K:Value->Prop}(h:bldK P t ps K):∃v,K v/\bldK P t ps (· = v):=by
 unfold bldK at h ⊢;split at h
 ·split at h
  ·rename_i z hz;have key:∀{ps:List (Nat×Value)} {raw:Nat->Bool} {A:Prop},ifsR raw ps A->A/\∀B:Prop,B->ifsR raw ps B:=by
    intro ps raw
    induction ps with
    | nil=>intro A h;exact⟨h,λB b=>b⟩
    | cons x ps ih=>
     intro A h;simp only[ifsR]at h ⊢;cases hr:raw x.1
     ·rw[hr]at h;exact ih h
     ·rw[hr]at h;simp only[cond_true]at h ⊢;exact⟨(ih h.2).1,λB b=>⟨h.1,(ih h.2).2 B b⟩⟩
   obtain⟨h,a⟩:=key h;split at h
   ·rename_i cs hf;rw[WH]at h;refine⟨_,h.2,?_⟩;simp only[*];refine a _ ?_;rw[WH]
    first|exact⟨h.1,trivial⟩|exact⟨rfl,trivial⟩
   ·exact h.elim
  ·exact h.elim
 ·split at h
  ·split at h
   ·refine⟨_,h,?_⟩;simp only[*]
   ·exact h.elim
  ·exact h.elim
 ·exact h.elim
theorem Wkh {P:Program}{t:Nat}{x:Value}{lo hi mx:Option Value}{K:Value->Prop}(h:slcK P t x lo hi mx K):∃v,K v/\slcK P t x lo hi mx (· = v):=by
 unfold slcK at h ⊢;split at h
 case h_2=>exact h.elim
 rename_i e a n c hu;split at h
 case h_2=>exact h.elim
 rename_i ti hi';simp only at h ⊢;split at h
 case h_2=>exact h.elim
 rename_i l hh m hlo hhi hmx;obtain⟨j,b,g,i,d⟩:=h;refine⟨_,d,?_⟩;simp only[hu,hi',hlo,hhi,hmx];exact⟨j,b,g,i,rfl⟩
theorem WeV:∀{vs:List Value} {v:Value} {b:Bool} {K:Value->Prop},mmK b v vs K->∃z,K z/\mmK b v vs (· = z)
 | [],v,b,K,h=>⟨v,by simpa[mmK]using h,by simp[mmK]⟩
 | u::vs,v,b,K,h=>by
  cases v<;>cases u<;>simp only[mmK]at h ⊢ <;> try exact h.elim
  exact WeV h
theorem Wmq {P:Program}{o:Op}(hp:GL P o=true){ρ:Env}{h:Hp}{K:Value->Prop}(hk:qK P o ρ h K):∃v,K v/\∀h',qK P o ρ h' (· = v):=by
 unfold qK at hk;split at hk
 case h_1 x=>obtain⟨v,a,e⟩:=WbI hk;exact⟨v,a,λ_=>e⟩
 case h_2 x=>obtain⟨v,a,e⟩:=WbI hk;exact⟨v,a,λ_=>e⟩
 case h_3 c x y=>
  obtain⟨v,B,hk⟩:=Wq hk;split at hk
  ·obtain⟨u,a,e⟩:=WbI hk;exact⟨u,a,λ_=>by simpa only[qK,B,wv]using e⟩
  ·obtain⟨u,a,e⟩:=WbI hk;exact⟨u,a,λ_=>by simpa only[qK,B,wv]using e⟩
  ·exact hk.elim
 case h_4=>simp[GL]at hp
 case h_5 x=>
  obtain⟨v,B,hk⟩:=Wq hk;split at hk
  ·obtain⟨C,rfl,p⟩:=hk;exact⟨_,p,λ_=>by simp only[qK,B,wv];exact⟨C,rfl,rfl⟩⟩
  ·exact⟨_,hk,λ_=>by simp only[qK,B,wv]⟩
  ·exact hk.elim
 case h_6 op t x y yt=>
  obtain⟨j,g,hk⟩:=Wq hk;obtain⟨N,F,D⟩:=Wq hk;obtain⟨v,a,e⟩:=Whj D;exact⟨v,a,λ_=>by simpa only[qK,g,F,wv]using e⟩
 case h_7 op t x=>
  obtain⟨j,g,hk⟩:=Wq hk;split at hk
  ·exact⟨_,hk,λ_=>by simp only[qK,g,wv]⟩
  ·exact⟨_,hk,λ_=>by simp only[qK,g,wv,Ar]⟩
  ·exact hk.elim
 case h_8 s d x=>
  obtain⟨j,g,hk⟩:=Wq hk;split at hk
  ·rename_i a e;exact⟨_,hk,λ_=>by simp only[qK,g,wv,a,e,Ar]⟩
  ·rename_i a e;exact⟨_,hk,λ_=>by simp only[qK,g,wv,a,e]⟩
  ·rename_i a e;simp[GL,a]at hp
  ·exact hk.elim
 case h_9 s x f=>
  obtain⟨j,g,hk⟩:=Wq hk;obtain⟨H,M,E,z,hk⟩:=Wah hk;split at hk
  ·rw[WH]at hk;exact⟨_,hk.2,λ_=>by simp only[qK,g,wv,fldK,E,z,WH];exact⟨hk.1,trivial⟩⟩
  ·exact hk.elim
 case h_10 s x f=>
  obtain⟨j,g,hk⟩:=Wq hk;obtain⟨H,M,E,z,hk⟩:=Wah hk;split at hk
  ·obtain⟨v,a,e⟩:=WjD hk;exact⟨v,a,λ_=>by simpa only[qK,g,wv,fldK,E,z]using e⟩
  ·exact hk.elim
 case h_11 t x i=>
  obtain⟨j,g,hk⟩:=Wq hk;obtain⟨J,A,hk⟩:=Wq hk;split at hk
  ·have r:=(by assumption:P.underlying t=some _);rw[WH]at hk;obtain⟨a,C,rfl,e,w,p⟩:=hk;exact⟨_,p,λ_=>by simp only[qK,g,A,wv,r,WH];exact⟨a,C,rfl,e,w,rfl⟩⟩
  ·have r:=(by assumption:P.underlying t=some _);rw[WH]at hk;obtain⟨a,e,w,p⟩:=hk;exact⟨_,p,λ_=>by simp only[qK,g,A,wv,r,WH];exact⟨a,e,w,rfl⟩⟩
  ·exact hk.elim
 case h_12 t x i=>
  obtain⟨j,g,hk⟩:=Wq hk;obtain⟨J,A,hk⟩:=Wq hk;split at hk
  ·have r:=(by assumption:P.underlying t=some _);obtain⟨b,a,e,p⟩:=hk;exact⟨_,p,λ_=>by simp only[qK,g,A,wv,r];exact⟨b,a,e,rfl⟩⟩
  ·exact hk.elim
 case h_13=>simp[GL]at hp
 case h_14 t i=>
  obtain⟨j,g,hk⟩:=Wq hk;split at hk
  ·obtain⟨v,a,e⟩:=WbI hk;exact⟨v,a,λ_=>by simpa only[qK,g,wv]using e⟩
  ·exact hk.elim
 case h_15 fn x y=>
  split at hk
  ·rename_i va vb a e;exact⟨_,hk,λ_=>by simp only[qK,a,e]⟩
  ·exact hk.elim
 case h_16 t ps=>
  split at hk
  ·rename_i vs a;obtain⟨v,e,w⟩:=Wlo hk;exact⟨v,e,λ_=>by simpa only[qK,a]using w⟩
  ·exact hk.elim
 case h_17 t x lo A mx=>
  obtain⟨j,g,hk⟩:=Wq hk;split at hk
  ·rename_i l h m a e w;obtain⟨v,G,L⟩:=Wkh hk;exact⟨v,G,λ_=>by simpa only[qK,g,wv,a,e,w]using L⟩
  ·exact hk.elim
 case h_18 t x=>
  obtain⟨j,g,hk⟩:=Wq hk;rw[WH]at hk;exact⟨_,hk.2,λ_=>by simp only[qK,g,wv,WH];exact⟨hk.1,trivial⟩⟩
 case h_19=>simp[GL]at hp
 case h_20 c=>
  split at hk
  ·rename_i x t hc ha ht;unfold lenK at hk;split at hk
   ·exact⟨_,hk,λ_=>by simp only[qK,hc,ha,ht,lenK, *]⟩
   ·exact⟨_,hk,λ_=>by simp only[qK,hc,ha,ht,lenK, *]⟩
   ·exact⟨_,hk,λ_=>by simp only[qK,hc,ha,ht,lenK, *]⟩
   ·rename_i r;simp only[GL,hc,ht,r]at hp;cases hp
   ·exact hk.elim
  ·rename_i hc ha ht;split at hk
   ·exact⟨_,hk,λ_=>by simp only[qK,hc,ha,ht, *]⟩
   ·exact hk.elim
  ·rename_i hc ha;obtain⟨v,a,e⟩:=WeV hk;exact⟨v,a,λ_=>by simpa only[qK,hc,ha]using e⟩
  ·rename_i hc ha;obtain⟨v,a,e⟩:=WeV hk;exact⟨v,a,λ_=>by simpa only[qK,hc,ha]using e⟩
  ·exact hk.elim
 ·exact hk.elim
def LdH (S:aP)(c:CK)(a:Addr)(K:c.T->Prop):Prop:=∃x,(∀h,S h->cell h a=some (c.v x))/\K x
def LdHN (S:aP):List CK->Addr->Nat->(List Value->Prop)->Prop
 | [],_,_,K=>K []
 | c::cs,a,i,K=>LdH S c (a.add i) λx=>LdHN S cs a (i+1) λvs=>K (c.v x::vs)
def LkH (S:aP)(k:IntKind)(c:CK)(m:Option Nat)(n:Int)(K:Option c.T->Prop):Prop:=∃l,(∀h,S h->MapO h m k c l)/\K (mget l n)
def Wo0 (S:aP)(k:IntKind)(c:CK)(m:Option Nat)(K:Int->Prop):Prop:=∃l,(∀h,S h->MapO h m k c l)/\K (l.length:Int)
def qS (P:Program)(S:aP)(o:Op)(ρ:Env)(K:Value->Prop):Prop:=
 match o with
 | .load t a=>wv (ev ρ a) λv=>match v,skOf P t with
  | .pointer (some a),some (.one c)=>chk (P.info? t).isSome (LdH S c a λx=>K (c.v x))
  | .pointer (some a),some (.agg cs)=>chk (P.cellsOf t==cs.length) (chk (P.info? t).isSome (LdHN S cs a 0 λvs=>K (.agg vs.toArray)))
  | _,_=>False
 | .lookup t x i ok=>wv (ev ρ x) λvx=>wv (ev ρ i) λvi=>match P.underlying t,vx,vi with
  | some (.map kt et),.map m,.int k n=>match P.underlying kt,ekOf P et,P.info? et with
   | some (.int k'),some (.one c),some ti=>match ti.zero with
    | some z=>if k=k' then unv c z λz=>LkH S k c m n λo=>K (bif ok then .tuple #[c.v (o.getD z),.bool o.isSome]else c.v (o.getD z))else False
    | none=>False
   | _,_,_=>False
  | _,_,_=>False
 | .call c=>match c.callee,evs ρ c.args.toList,c.argTypes.toList with
  | .builtin .len,some [.map m],[t]=>Wdu P t λk c=>Wo0 S k c m λz=>K (.int .i64 z)
  | _,_,_=>False
 | _=>False
theorem WfP {S:aP}:∀{cs:List CK} {a:Addr} {i:Nat} {K:List Value->Prop},LdHN S cs a i K->∃vs,K vs/\∀h,S h->LdN cs a i h (· = vs)
 | [],a,i,K,hk=>⟨[],hk,λh _=>rfl⟩
 | c::cs,a,i,K,⟨x,hx,hk⟩=>by
  obtain⟨vs,hK,hall⟩:=WfP hk;refine⟨c.v x::vs,hK,λh b=>?_⟩;have e:LdN cs a (i+1) h λus=>c.v x::us=c.v x::vs:=by
   have key:∀{cs:List CK} {i:Nat} {K K':List Value->Prop},(∀vs,K vs->K' vs)->LdN cs a i h K->LdN cs a i h K':=by
    intro cs
    induction cs with
    | nil=>intro i K K' hh hk;exact hh _ hk
    | cons c cs ih=>
     intro i K K' hh hk;simp only[LdN]at hk ⊢;cases c<;>(obtain⟨y,d,hk⟩:=hk;exact⟨y,d,ih (λvs m=>hh _ m) hk⟩)
   exact key (λus g=>by rw[g]) (hall h b)
  simp only[LdN];have j:=hx h b;cases c<;>exact⟨x,j,e⟩
theorem WgR {P:Program}{t:Nat}{K:IntKind->CK->Prop}(h:Wdu P t K):∃kt et k c,P.underlying t=some (.map kt et)/\P.underlying kt=some (.int k)/\ekOf P et=some (.one c)/\K k c:=by
 unfold Wdu at h;split at h
 ·split at h
  ·exact⟨_,_,_,_,by assumption,by assumption,by assumption,h⟩
  ·exact h.elim
 ·exact h.elim
theorem WkN {P:Program}{S:aP}{o:Op}{ρ:Env}{K:Value->Prop}(hk:qS P S o ρ K):∃v,K v/\∀h,S h->qK P o ρ h (· = v):=by
 unfold qS at hk;split at hk
 ·obtain⟨Q,r,hk⟩:=Wq hk;split at hk
  ·rename_i ad c hs;rw[WH]at hk;obtain⟨A,x,C,b⟩:=hk;refine⟨_,b,λh d=>?_⟩;simp only[qK,r,wv,hs,WH];refine⟨A,?_⟩;have u:=C h d;cases c<;>exact⟨x,u,rfl⟩
  ·rename_i ad cs hs;rw[WH,WH]at hk;obtain⟨A,D,hk⟩:=hk;obtain⟨vs,b,p⟩:=WfP hk;refine⟨_,b,λh d=>?_⟩;simp only[qK,r,wv,hs,WH];refine⟨A,D,?_⟩;have key:∀{cs:List CK} {i:Nat} {K K':List Value->Prop},(∀vs,K vs->K' vs)->LdN cs ad i h K->LdN cs ad i h K':=by
    intro cs
    induction cs with
    | nil=>intro i K K' hh hk;exact hh _ hk
    | cons c cs ih=>
     intro i K K' hh hk;simp only[LdN]at hk ⊢;cases c<;>(obtain⟨y,E,hk⟩:=hk;exact⟨y,E,ih (λvs J=>hh _ J) hk⟩)
   exact key (λus g=>by rw[g]) (p h d)
  ·exact hk.elim
 ·obtain⟨M,C,j⟩:=Wq hk;obtain⟨R,G,a⟩:=Wq j;clear hk j;split at a
  case h_2=>exact a.elim
  rename_i H L m k n g;split at a
  case h_2=>exact a.elim
  rename_i k' c ti hkk hs hti;split at a
  case h_2=>exact a.elim
  rename_i z hz;split at a
  case isFalse=>exact a.elim
  rename_i e;subst e;obtain⟨N,rfl,l,w,b⟩:=Uk a;refine⟨_,b,λh d=>?_⟩;simp only[qK,C,G,wv,lkK,g,hkk,hs,hti,hz,zS];have F:=w h d;rw[Wo1];exact⟨l,F,rfl⟩
 ·split at hk
  ·rename_i m t u r ht;obtain⟨H,L,k,c,g,s,B,l,w,b⟩:=WgR hk;refine⟨_,b,λh d=>?_⟩;simp only[qK,u,r,ht,lenK,g,s,B];exact⟨l,w h d,rfl⟩
  ·exact hk.elim
 ·exact hk.elim
structure DInv (ops:Array Oper) (listed:Array Bool) (D:List Nat):Prop where
 size:listed.size=ops.size
 at_:∀j,j<ops.size->listed[j]?=some (D.contains j)
 lt:∀j∈D,j<ops.size
theorem DInv.getD {ops:Array Oper}{listed:Array Bool}{D:List Nat}(h:DInv ops listed D){j:Nat}(hj:j<ops.size)(b:Bool):listed.getD j b=D.contains j:=by
 rw[zCV,h.at_ j hj];rfl
theorem DInv.getD' {ops:Array Oper}{listed:Array Bool}{D:List Nat}(h:DInv ops listed D)(j:Nat):listed.getD j false=D.contains j:=by
 rcases zAN j ops.size with hj|hj
 ·exact h.getD hj false
 ·rw[zCV,Array.getElem?_eq_none (by rw[h.size];exact hj)]
  symm
  simp only[Option.getD_none,zCW,decide_eq_false_iff_not];exact λa=>by have:=h.lt j a;omega
theorem DInv.start (ops:Array Oper):DInv ops (Array.replicate ops.size false) []:=
 ⟨by simp,λj a=>by simp[a],λj a=>by simp at a⟩
theorem DInv.cons {ops:Array Oper}{listed:Array Bool}{D:List Nat}(h:DInv ops listed D){i:Nat}(hi:i<ops.size):DInv ops (listed.setIfInBounds i true) (i::D):=by
 refine⟨by simp[h.size],λj a=>?_,λj a=>?_⟩
 ·by_cases hij:i=j
  ·subst hij;simp[h.size,a]
  ·rw[zFC hij,h.at_ j a];have:(j==i)=false:=by simpa using λe=>hij e.symm
   simp only[List.contains_cons,this,zFI]
 ·rcases zQ.1 a with rfl|h'
  ·exact hi
  ·exact h.lt j h'
def rdyD (ops:Array Oper)(D:List Nat)(i:Nat):Bool:=match ops[i]? with
 | none=>false
 | some o=>!D.contains i&&o.after.toList.all λe=>!Region.binds .any e||D.contains e.on
def Wm2 (ops:Array Oper)(D:List Nat)(i:Nat):Bool:=match ops[i]? with
 | none=>false
 | some oi=>(List.range ops.size).all λj=>Nat.beq j i||(D.contains j||match ops[j]? with
  | some oj=>oj.after.toList.any (λe=>Region.binds .any e&&Nat.beq e.on i)||oi.apart ops oj
  | none=>true)
theorem WeF {ops:Array Oper}{D:List Nat}{i:Nat}(h:rdyD ops D i=true):i<ops.size:=by
 unfold rdyD at h;split at h
 ·cases h
 ·rename_i o ho;exact(zAQ.1 ho).1
theorem Waj {ops:Array Oper}{listed:Array Bool}{D:List Nat}(h:DInv ops listed D)(i:Nat):i∈Region.ready .any ops listed↔rdyD ops D i=true:=by
 rw[mem_ready];unfold rdyD;cases ho:ops[i]? with
 | none=>simp
 | some o=>
  have d:i<ops.size:=(zAQ.1 ho).1;simp only[h.getD d,Option.some.injEq,exists_eq_left',zF,zAW,zAA,zBL];constructor
  ·rintro⟨h1,h2⟩;refine⟨h1,λe a=>?_⟩;cases b:Region.binds .any e
   ·exact .inl rfl
   ·right;have:=h2 e (by simpa using a) b
    rwa [h.getD']at this
  ·rintro⟨h1,h2⟩;refine⟨h1,λe a b=>?_⟩;have:=h2 e (by simpa using a);rw[b]at this;rw[h.getD'];simpa using this
theorem Gf {ops:Array Oper}{listed:Array Bool}{D:List Nat}(h:DInv ops listed D){i:Nat}(hf:Wm2 ops D i=true):Region.free .any ops listed i=true:=by
 unfold Wm2 at hf;unfold Region.free;cases ho:ops[i]? with
 | none=>rw[ho]at hf;cases hf
 | some oi=>
  rw[ho]at hf;simp only[zAA,zU]at hf ⊢;intro j hj;have:=hf j hj;rw[h.getD hj];simp only[zBL]at this ⊢;rcases this with h1|h1|h1
  ·exact .inl (.inl (by simpa using zAK h1))
  ·exact .inl (.inr h1)
  ·right;split at h1
   ·rename_i oj hoj;simp only[hoj,zBL]at h1 ⊢;rcases h1 with h1|h1
    ·left;rw[zw]at h1;obtain⟨e,b,a⟩:=h1;simp only[zF]at a;rw[Array.any_eq_true'];exact⟨e,by simpa using b,by simp[a.1,zAK a.2]⟩
    ·exact .inr h1
   ·rename_i hoj;simp[hoj]
inductive SH where
 | done
 | take (i:Nat) (r:SH)
 | split (c:Nat) (t f:SH)
 | all (l:List (Nat×SH))
def SH.tk:List Nat->SH->SH
 |[],s=>s
 |i::l,s=>.take i (SH.tk l s)
def Sx (sm:Bool)(S:aP)(h:Hp)(X:Prop):Prop:=match sm with
 | true=>S h/\X
 | false=>X
def shut (C D:List Nat):Bool:=C.any λk=>D.contains k
def allB (f:Nat->SH->Prop):List (Nat×SH)->Prop
 | []=>True
 | [x]=>f x.1 x.2
 | x::y::l=>f x.1 x.2/\allB f (y::l)
def Us (P:Program)(N:Nat)(ops:Array Oper)(sm:Bool)(C:List Nat)(S:aP)(K:Env->Hp->Prop):Nat->Nat->SH->List Nat->Env->Hp->Prop
 | 0,_,_,_,_,_=>False
 | n+1,_,.done,D,ρ,h=>chk ((List.range ops.size).all λj=>D.contains j) (K ρ h)
 | n+1,m+1,.take i r,D,ρ,h=>match ops[i]? with
  | some o=>chk (rdyD ops D i&&(Wm2 ops D i&&(Weo N o.dst && !C.contains i)))
   (bif Wd7 ops o ρ then Us P N ops sm C S K n m r (i::D) (ρ.putO o.dst undef) h
    else chk (WaQ ops o ρ) (bif GL P o.op then qK P o.op ρ h λv=>Us P N ops sm C S K n m r (i::D) (ρ.putO o.dst v) h
     else chk (sm&&((C.all λk=>WiT ops k i) && !shut C D)) (qS P S o.op ρ λv=>Us P N ops sm C S K n m r (i::D) (ρ.putO o.dst v) h)))
  | none=>False
 | n+1,m,.split c t f,D,ρ,h=>Hy ρ (.tmp c) λb=>If b (Us P N ops sm C S K n m t D (ρ.put c (.bool true)) h) (Us P N ops sm C S K n m f D (ρ.put c (.bool false)) h)
 | n+1,m+1,.all l,D,ρ,h=>chk ((!l.isEmpty&&l.all λx=>Nat.blt x.1 ops.size)&&((List.range ops.size).all λj=>rdyD ops D j==l.any λx=>Nat.beq x.1 j))
  (allB (λi r=>match ops[i]? with
   | some o=>chk (Weo N o.dst) (bif Wd7 ops o ρ then Sx (sm && !shut C (i::D)) S h (Us P N ops sm C S K n m r (i::D) (ρ.putO o.dst undef) h)
    else chk (WaQ ops o ρ) (opK P o.op o.type ρ h λv h'=>Sx (sm && !shut C (i::D)) S h' (Us P N ops sm C S K n m r (i::D) (ρ.putO o.dst v) h')))
   | none=>False) l)
 | _,_,_,_,_,_=>False
def Held (h:Hp)(body:(Hp->Prop)->Prop):Prop:=∃S:Hp->Prop,S h/\body S
theorem WfI {f:Nat->SH->Prop}:∀{l:List (Nat×SH)},allB f l->∀x∈l,f x.1 x.2
 | [],_,x,hx=>by simp at hx
 | [y],h,x,hx=>by simp at hx;subst hx;exact h
 | y::z::l,h,x,hx=>by
  rcases zQ.1 hx with rfl|hx
  ·exact h.1
  ·exact WfI h.2 x hx
theorem WdG {ds:List Nat}{ρ ρ':Env}{ops:Array Oper}{i:Nat}{o:Oper}(ho:ops[i]?=some o){v:Value}
 (k:∀j,(ops.toList.filterMap (·.dst)).contains j=false->∀u,(ρ.putO o.dst v) j=some u->ρ' j=some u):∀j,(ops.toList.filterMap (·.dst)).contains j=false->∀u,ρ j=some u->ρ' j=some u:=by
 intro j hj u hu;refine k j hj u ?_;cases hd:o.dst with
 | none=>exact hu
 | some d=>
  simp only[Env.putO,Env.put];cases hb:Nat.beq j d
  ·exact hu
  ·have e:j=d:=zAK hb;subst e;exfalso;simp only[zCW,decide_eq_false_iff_not,zEO,not_exists,not_and]at hj;refine hj o ?_ hd;have:=zFZ ho;simpa using this
def TD (S:aP)(C D:List Nat)(h:Hp):Prop:=S h\/shut C D=true
theorem TD.ts {S:aP}{C D:List Nat}{ops:Array Oper}{listed:Array Bool}{w:World}(hD:DInv ops listed D)(h:TD S C D w.heap):TS (λw=>S w.heap) C listed w:=by
 refine h.imp id λa=>?_;unfold shut at a;rw[zw]at a;obtain⟨k,d,b⟩:=a;exact⟨k,d,by rw[hD.getD'];exact b⟩
theorem WlD {C D:List Nat}{ops:Array Oper}{listed:Array Bool}(hD:DInv ops listed D)(h:shut C D=false):∀k∈C,listed.getD k false=false:=by
 intro k hk;unfold shut at h;rw[zAX]at h;rw[hD.getD'];simpa using h k hk
theorem WhJ {C D:List Nat}{i:Nat}(h:shut C D=true):shut C (i::D)=true:=by
 unfold shut at *;rw[zw]at *;obtain⟨k,b,a⟩:=h;refine⟨k,b,?_⟩;rw[zDC]at *;exact zAM _ a
theorem WoK {sm:Bool}{S:aP}{C D:List Nat}{h:Hp}{X:Prop}(hs:sm=false->∀h,S h)(hx:Sx (sm && !shut C D) S h X):TD S C D h/\X:=by
 cases hc:shut C D
 ·rw[hc]at hx;simp only[zFJ,zDD]at hx;cases sm
  ·exact⟨.inl (hs rfl h),hx⟩
  ·exact⟨.inl hx.1,hx.2⟩
 ·rw[hc]at hx;simp only[Bool.not_true,zCX]at hx;exact⟨.inr hc,hx⟩
theorem Qv {P:Program}{N:Nat}{ops:Array Oper}{sm:Bool}{C:List Nat}{S:aP}{K:Env->Hp->Prop}{Qn:Act->World->Prop}(hsel:Region.noSelect ops=true)(hsm:sm=false->∀h,S h):∀(n m:Nat) {sh:SH} {D:List Nat} {ρ:Env} {a:Act} {w:World} {listed:Array Bool},
 Us P N ops sm C S K n m sh D ρ w.heap->Fits N ρ a->DInv ops listed D->TD S C D w.heap->(∀ρ' a' w',Fits N ρ' a'->ZP w w'->UM ops.toList ρ ρ'->K ρ' w'.heap->Qn a' w') →
 anyS P ops (λe a w=>match e with | .normal=>Qn a w|_=>False) (λw=>S w.heap) C m listed a w
 | 0,m,sh,D,ρ,a,w,listed,h,hf,hD,hS,hK=>(by simp only[Us]at h)
 | n+1,m,.done,D,ρ,a,w,listed,h,hf,hD,hS,hK=>by
  have h':chk ((List.range ops.size).all λj=>D.contains j) (K ρ w.heap):=by cases m<;>exact h
  rw[WH]at h';refine Wjn ?_ (hK ρ a w hf (.refl _) (λ_ _ _ h=>h) h'.2) m;rw[List.eq_nil_iff_forall_not_mem];intro j hj;have B:=(Waj hD j).1 hj;have:=zAA.1 h'.1 j (zU.2 (WeF B));unfold rdyD at B;split at B
  ·cases B
  ·rw[this]at B;simp at B
 | n+1,0,.take i r,D,ρ,a,w,listed,h,hf,hD,hS,hK=>(by simp only[Us]at h)
 | n+1,m+1,.take i r,D,ρ,a,w,listed,h,hf,hD,hS,hK=>by
  simp only[Us]at h;split at h
  case h_2=>exact h.elim
  rename_i o ho;rw[WH]at h;obtain⟨Z,h⟩:=h;simp only[zF,zAW]at Z;obtain⟨ac,V,s,M⟩:=Z;have H:=WeF ac;have z:i∈Region.ready .any ops listed:=(Waj hD i).2 ac;have p:TD S C (i::D) w.heap:=hS.imp id WhJ;cases hg:Wd7 ops o ρ
  ·rw[hg]at h;simp only[cond_false]at h;rw[WH]at h;obtain⟨W,h⟩:=h;have hw:=Qb hf W;cases hp:GL P o.op
   ·rw[hp]at h;simp only[cond_false]at h;rw[WH]at h;obtain⟨Q,h⟩:=h;simp only[zF,zAW,zAA]at Q;obtain⟨v,J,G⟩:=WkN h;refine Wa0 (T:=λw=>S w.heap) ho hsel (Gf hD V) z (λ_ _ _ h=>h) M (.inr ⟨λ_ h=>h,Q.2.1⟩) (.inr (WlD hD Q.2.2)) (v:=v) (.inl ⟨hw,λw' p=>?_⟩) (hS.ts hD) ?_
    ·obtain⟨u,B,rfl⟩:=G6 hf.ev o (G w'.heap p);exact B
    ·exact Qv hsel hsm n m J (hf.put s v) (hD.cons H) p λρ' a' w' d F E g=>hK ρ' a' w' d F (WdG (ds:=[]) ho E) g
   ·rw[hp]at h;simp only[cond_true]at h;obtain⟨v,J,G⟩:=Wmq hp h;refine Wa0 (T:=λ_=>True) ho hsel (Gf hD V) z (λ_ _ _ h=>h) M (.inl λ_=>trivial) (.inl λ_=>trivial) (v:=v) (.inl ⟨hw,λw' _=>?_⟩) (hS.ts hD) ?_
    ·obtain⟨u,B,rfl⟩:=G6 hf.ev o (G w'.heap);exact B
    ·exact Qv hsel hsm n m J (hf.put s v) (hD.cons H) p λρ' a' w' d F E g=>hK ρ' a' w' d F (WdG (ds:=[]) ho E) g
  ·rw[hg]at h;simp only[cond_true]at h;refine Wa0 (T:=λ_=>True) ho hsel (Gf hD V) z (λ_ _ _ h=>h) M (.inl λ_=>trivial) (.inl λ_=>trivial) (v:=undef) (.inr ⟨Vz hf hg,rfl⟩) (hS.ts hD) ?_;exact Qv hsel hsm n m h (hf.put s undef) (hD.cons H) p λρ' a' w' d F E g=>hK ρ' a' w' d F (WdG (ds:=[]) ho E) g
 | n+1,m,.split c t f,D,ρ,a,w,listed,h,hf,hD,hS,hK=>by
  have h':Hy ρ (.tmp c) λb=>If b (Us P N ops sm C S K n m t D (ρ.put c (.bool true)) w.heap) (Us P N ops sm C S K n m f D (ρ.put c (.bool false)) w.heap):=by cases m<;>exact h
  obtain⟨b,hb,aa⟩:=UD h';have A:=λe=>aa.t e;have h2:=λe=>aa.f e;have L:ρ c=some (.bool b):=hb;have kk:∀(b':Bool),b=b'->∀ρ',UM ops.toList (ρ.put c (.bool b')) ρ'->UM ops.toList ρ ρ':=by
   intro b' e ρ' k i H u hu;refine k i H u ?_;simp only[Env.put];cases hic:Nat.beq i c
   ·exact hu
   ·have e2:i=c:=zAK hic;subst e2;rw[L]at hu;simp only[cond_true];rw[←e];exact hu
  cases b
  ·exact Qv hsel hsm n m (h2 rfl) (hf.lit L rfl) hD hS λρ' a' w' d F E g=>hK ρ' a' w' d F (kk false rfl ρ' E) g
  ·exact Qv hsel hsm n m (A rfl) (hf.lit L rfl) hD hS λρ' a' w' d F E g=>hK ρ' a' w' d F (kk true rfl ρ' E) g
 | n+1,0,.all l,D,ρ,a,w,listed,h,hf,hD,hS,hK=>(by simp only[Us]at h)
 | n+1,m+1,.all l,D,ρ,a,w,listed,h,hf,hD,hS,hK=>by
  simp only[Us]at h;rw[WH]at h;obtain⟨Z,h⟩:=h;simp only[zF,zAW,zAA,zU,zZ]at Z;obtain⟨⟨hne,hlt⟩,Y⟩:=Z;have ab:∀j,j∈Region.ready .any ops listed->∃r,(j,r)∈l:=by
   intro j hj;have B:=(Waj hD j).1 hj;have:=Y j (WeF B);rw[B]at this;have:=zw.1 this.symm;obtain⟨x,hx,hb⟩:=this;have e:x.1=j:=zAK hb;exact⟨x.2,by rw[←e];exact hx⟩
  refine WjZ (rs:=Region.ready .any ops listed) rfl ?_ λj hj=>?_
  ·intro hnil
   match l,hne with
   | x::l',_=>
    have hx:=Nat.blt_eq.mp (hlt x aA);have:=Y x.1 hx;have X:(x::l').any (λy=>Nat.beq y.1 x.1)=true:=zw.2 ⟨x,by simp,by simp⟩;rw[X]at this;have:=(Waj hD x.1).2 this;rw[hnil]at this;simp at this
  ·obtain⟨r,B⟩:=ab j hj;have A:=WfI h (j,r) B;simp only at A;split at A
   case h_2=>exact A.elim
   rename_i o ho;have H:j<ops.size:=(zAQ.1 ho).1;rw[WH]at A;obtain⟨s,A⟩:=A;unfold wpOp;simp only[ho];cases hg:Wd7 ops o ρ
   ·rw[hg]at A;simp only[cond_false]at A;rw[WH]at A;obtain⟨W,A⟩:=A;rw[zB (Qb hf W)];refine .inl (Vl.upon (WbC hf.ev o A) λv w' F J=>?_);obtain⟨p,J⟩:=WoK hsm J;exact⟨p.ts (hD.cons H),Qv hsel hsm n m J (hf.put s v) (hD.cons H) p λρ' a' U d R E g=>hK ρ' a' U d (F.trans R) (WdG (ds:=[]) ho E) g⟩
   ·rw[hg]at A;simp only[cond_true]at A;rw[Vz hf hg];simp only[zb,zt];obtain⟨p,J⟩:=WoK hsm A;exact⟨p.ts (hD.cons H),Qv hsel hsm n m J (hf.put s undef) (hD.cons H) p λρ' a' U d R E g=>hK ρ' a' U d R (WdG (ds:=[]) ho E) g⟩
def Wnr (P:Program)(N:Nat)(sm:Bool)(C:List Nat)(sh:SH)(ops:Array Oper)(ρ:Env)(h:Hp)(K:Env->Hp->Prop):Prop:=
 match sm with
 | true=>Held h λS=>Us P N ops true C S K 400 ops.size sh [] ρ h
 | false=>Us P N ops false C (λ_=>True) K 400 ops.size sh [] ρ h
theorem Uv {P:Program}{N id:Nat}{ops:Array Oper}{sm:Bool}{C:List Nat}{sh:SH}{K:Env->Hp->Prop}{ρ:Env}{a:Act}{w:World}{Q:Exit->Act->World->Prop}
 (hm:P.follows .mixedOrders=true) (hsel:Region.noSelect ops=true) (h:Wnr P N sm C sh ops ρ w.heap K)
 (hf:Fits N ρ a) (hK:∀ρ' a' w',Fits N ρ' a'->ZP w w'->UM ops.toList ρ ρ'->K ρ' w'.heap->Q .normal a' w'):(Code.region id ops true).wp P Q a w:=by
 refine wp_mono (Q:=λe a w=>match e with | .normal=>Q .normal a w|_=>False) ?_ (λe a w j=>by cases e<;>first|exact j|exact j.elim)
 have hd:ZP w {w with drawn:=w.drawn+1}:=⟨rfl,rfl,rfl,zD _⟩;cases sm
 ·exact UR (S:=λw=>True) hm (Qv (S:=λ_=>True) (w:={w with drawn:=w.drawn+1}) (Qn:=Q .normal) hsel (λ_ _=>trivial) 400 ops.size h hf (DInv.start ops) (.inl trivial) λρ' a' w' b i g d=>hK ρ' a' w' b (hd.trans i) g d)
 ·obtain⟨S,m,h⟩:=h;exact UR hm (Qv (S:=S) (w:={w with drawn:=w.drawn+1}) (Qn:=Q .normal) hsel (λe=>by cases e) 400 ops.size h hf (DInv.start ops) (.inl m) λρ' a' w' b i g d=>hK ρ' a' w' b (hd.trans i) g d)
abbrev Js:=List (Nat×SK)
def ksJ (js:Js):List CK:=ksOf (js.map (·.2))
def Wet (ρ:Env):Js->Option (List Value)
 | []=>some []
 | (i,.one _)::js=>match ρ i,Wet ρ js with|some v,some vs=>some (v::vs)|_,_=>none
 | (i,.agg cs)::js=>match ρ i,Wet ρ js with
  | some (.agg a),some vs=>bif a.size==cs.length then some (a.toList++vs)else none
  | _,_=>none
def apJ (js:Js)(ρ:Env)(J:Fam (ksJ js))(h:Hp):Prop:=match Wet ρ js with
 | some vs=>apF (ksJ js) J vs h
 | none=>False
def putJ:Env->Js->List Value->Env
 | ρ,[],_=>ρ
 | ρ,(i,.one _)::js,v::vs=>putJ (ρ.put i v) js vs
 | ρ,(i,.one _)::js,[]=>putJ ρ js []
 | ρ,(i,.agg cs)::js,vs=>putJ (ρ.put i (.agg (vs.take cs.length).toArray)) js (vs.drop cs.length)
def Jn (ks:List CK)(K:Fam ks)(body:Fam ks->Prop):Prop:=∃J:Fam ks,Fam.le ks J K/\body J
theorem Fam.le_refl:∀(ks:List CK) (R:Fam ks),Fam.le ks R R
 | [],_=>λ_ h=>h
 | _::cs,_=>λ_=>Fam.le_refl cs _
theorem Jn.intro {ks:List CK}{K:Fam ks}{body:Fam ks->Prop}(h:body K):Jn ks K body:=⟨K,Fam.le_refl ks K,h⟩
def isIn (ds:List Nat)(i:Nat):Bool:=ds.contains i
def Vt (ds:List Nat)(ρ ρ':Env):Prop:=∀i,ds.contains i=false->∀v,ρ i=some v->ρ' i=some v
theorem Vt.trans {d1 d2:List Nat}{a b c:Env}(h:Vt d1 a b)(k:Vt d2 b c):Vt (d1++d2) a c:=by
 intro i hi v hv;simp only[zCW,zR,decide_eq_false_iff_not,not_or]at hi;exact k i (by simpa using hi.2) v (h i (by simpa using hi.1) v hv)
theorem Vt.mono {d1 d2:List Nat}{a b:Env}(h:Vt d1 a b)(hs:∀i,i∈d1->i∈d2):Vt d2 a b:=by
 intro i hi v hv;refine h i ?_ v hv;simp only[zCW,decide_eq_false_iff_not]at hi ⊢;exact λd=>hi (hs i d)
theorem Vt.refl (ds:List Nat)(a:Env):Vt ds a a:=λ_ _ _ h=>h
theorem Va (ds:List Nat):∀(js:Js) (ρ:Env) (vs:List Value),(js.all λs=>isIn ds s.1)=true->Vt ds ρ (putJ ρ js vs)
 | [],ρ,vs,_=>by simp only[putJ];exact .refl _ _
 | (i,.one c)::js,ρ,[],h=>by
  simp only[zDS,zF]at h;simp only[putJ];exact Va ds js ρ [] h.2
 | (i,.one c)::js,ρ,v::vs,h=>by
  simp only[zDS,zF]at h;simp only[putJ];intro j hj u hu;refine Va ds js _ vs h.2 j hj u ?_;simp only[Env.put];cases hb:Nat.beq j i
  ·exact hu
  ·have e:j=i:=zAK hb;subst e;simp only[isIn]at h;rw[hj]at h;cases h.1
 | (i,.agg cs)::js,ρ,vs,h=>by
  simp only[zDS,zF]at h;simp only[putJ];intro j hj u hu;refine Va ds js _ _ h.2 j hj u ?_;simp only[Env.put];cases hb:Nat.beq j i
  ·exact hu
  ·have e:j=i:=zAK hb;subst e;simp only[isIn]at h;rw[hj]at h;cases h.1
theorem VT {N:Nat}:∀(js:Js) {ρ ρ':Env} {a:Act} {vs:List Value},Fits N ρ a->Fits N ρ' a->Wet ρ' js=some vs->Fits N (putJ ρ js vs) a
 | [],ρ,ρ',a,vs,h,_,_=>h
 | (i,.one c)::js,ρ,ρ',a,vs,h,h',hv=>by
  simp only[Wet]at hv;split at hv
  ·rename_i v vs' h1 h2;cases hv;simp only[putJ];refine VT js ⟨h.defers,h.size,λj u hu=>?_⟩ h' h2;simp only[Env.put]at hu;cases hb:Nat.beq j i
   ·rw[hb]at hu;exact h.at_ j u hu
   ·have e:j=i:=zAK hb;subst e;rw[hb]at hu;simp only[cond_true,Option.some.injEq]at hu;subst hu;exact h'.at_ j _ h1
  ·cases hv
 | (i,.agg cs)::js,ρ,ρ',a,vs,h,h',hv=>by
  simp only[Wet]at hv;split at hv
  ·rename_i ar vs' h1 h2;cases hs:(ar.size==cs.length)
   ·rw[hs]at hv;cases hv
   ·rw[hs]at hv;simp only[cond_true,Option.some.injEq]at hv;subst hv;have b:ar.toList.length=cs.length:=by simpa using hs
    simp only[putJ];rw[←b,List.take_left,List.drop_left];refine VT js ⟨h.defers,h.size,λj u hu=>?_⟩ h' h2;simp only[Env.put]at hu;cases hb:Nat.beq j i
    ·rw[hb]at hu;exact h.at_ j u hu
    ·have e:j=i:=zAK hb;subst e;rw[hb]at hu;simp only[cond_true,Option.some.injEq]at hu;subst hu;simpa using h'.at_ j _ h1
  ·cases hv
theorem Wb5 {js:Js}{ρ:Env}{J:Fam (ksJ js)}{h:Hp}(hj:apJ js ρ J h):∃vs,Wet ρ js=some vs/\Sat (ksJ js) J vs h:=by
 unfold apJ at hj;split at hj
 ·exact⟨_,by assumption,WcG hj⟩
 ·exact hj.elim
theorem H6 {N:Nat}{ds:List Nat}{ρ ρ':Env}{a:Act}(h:Fits N ρ' a)(k:Vt ds ρ ρ'):Fits N (ρ.hide ds) a:=by
 refine h.weaken λi v b=>?_;simp only[Env.hide]at b;cases hc:ds.contains i
 ·rw[hc]at b;exact k i hc v b
 ·rw[hc]at b;cases b
theorem H4 (ds:List Nat)(ρ:Env):Vt ds ρ (ρ.hide ds):=by
 intro i hi v hv;simp only[Env.hide,hi];exact hv
def Wfi:Op->Bool
 | .pick .. => true
 | _=>false
def allQ (os:List Oper):Bool:=os.all λo=>isQ o.op||Wfi o.op
theorem VR {P:Program}{N:Nat}{ops:Array Oper}{Q:Act->Prop}{w:World}:∀(n:Nat) {hs:List RI} {os:List Oper} {tail:List Oper} {ρ:Env} {a:Act} {K:Env->Hp->Prop},
 opsK P N ops n hs os ρ w.heap K->allQ os=true->Fits N ρ a->(∀ρ' a',Fits N ρ' a'->UM os ρ ρ'->K ρ' w.heap->wpStill P ops w Q tail a')->wpStill P ops w Q (os++tail) a
 | 0,_,_,_,_,_,_,h,_,_,_=>(by simp only[opsK]at h)
 | n+1,[],[],tail,ρ,a,K,h,hq,hf,hK=>by
  simp only[opsK]at h;exact hK ρ a hf (λ_ _ _ h=>h) h
 | n+1,[],o::os,tail,ρ,a,K,h,hq,hf,hK=>(by simp only[opsK]at h)
 | n+1,.op::hs,[],tail,ρ,a,K,h,hq,hf,hK=>(by simp only[opsK]at h)
 | n+1,.it ki c::hs,[],tail,ρ,a,K,h,hq,hf,hK=>(by simp only[opsK]at h)
 | n+1,.it ki c::hs,o::os,tail,ρ,a,K,h,hq,hf,hK=>by
  simp only[opsK]at h;rw[WH]at h;simp only[allQ,zDS,zF,zBL]at hq;have h2:=h.2;unfold itK at h2;split at h2
  ·rename_i heq;rw[heq]at hq;simp[isQ,Wfi]at hq
  ·rename_i heq;rw[heq]at hq;simp[isQ,Wfi]at hq
  ·exact h2.elim
 | n+1,.op::hs,o::os,tail,ρ,a,K,h,hq,hf,hK=>by
  simp only[opsK]at h;rw[WH]at h;obtain⟨C,h⟩:=h;simp only[zF]at C;have hw:=Qb hf C.1;simp only[allQ,zDS,zF,zBL]at hq;have R:isQ o.op=true:=by
   rcases hq.1 with h1|h1
   ·exact h1
   ·unfold Wfi at h1;split at h1
    ·rename_i heq;rw[heq];rfl
    ·cases h1
  unfold opK at h;rw[R]at h;obtain⟨v,V,A⟩:=G6 hf.ev o h;simp only[zAL,wpStill,hw,zS,Oper.still,V,Oper.stillUpon];exact⟨trivial,VR n A (by simpa[allQ]using hq.2) (hf.put C.2 v) λρ' a' g E B=>hK ρ' a' g E.cons B⟩
 | n+1,.grd and m inner::hs,os,tail,ρ,a,K,h,hq,hf,hK=>by
  simp only[opsK]at h;split at h
  case h_2=>exact h.elim
  rename_i pk rest hdrop;split at h
  case h_2=>exact h.elim
  rename_i c x y d hop hd;split at h
  case h_2=>exact h.elim
  rename_i b hb;rw[WH]at h;obtain⟨C,J,hJ,h⟩:=h;simp only[zF]at C;obtain⟨X,H,Z,hcc,s⟩:=C;have Y:os++tail=os.take m++(pk::rest++tail):=by
   rw[←hdrop,←zz,zBE]
  have W:allQ (os.take m)=true:=by
   rw[allQ,zAA]at hq ⊢;exact λo ho=>hq o (zAY ho)
  have M:allQ rest=true:=by
   rw[allQ,zAA]at hq ⊢;exact λo ho=>hq o (zCL (i:=m) (by rw[hdrop];exact zAM _ ho))
  rw[Y];have j:∀(r b':Bool) (z:Operand) a',b=b'->(bif b' then x else y)=z->Fits N (ρ.hide ((os.take m).filterMap (·.dst))) a'->J r w.heap->Region.wanted pk (yielded ops a'.tmps)=true →
   a'.eval (.tmp c)=.bool b'->a'.eval z=.bool r->wpStill P ops w Q (pk::rest++tail) a':=by
   intro r b' z a' e ez g L hw u hez;have D:(execOp a'.eval pk).run P w=.ok (.value (.bool r)) w:=by
    obtain⟨dst,op,ty,pos,aft,U⟩:=pk;simp only at hop;subst hop;subst ez;cases b'<;>simp at hez<;>simp[execOp,u,asBool,hez]
   simp only[zAL,wpStill,hw,zS,Oper.still,D,Oper.stillUpon];have S:=g.put (d:=some d) X (.bool r);rw[hd];exact⟨trivial,VR n (hJ _ _ L) M S λρ' ab F E B=>hK ρ' ab F (UM.grd hd hdrop E) B⟩
  have run:∀(b':Bool) (z:Operand),b=b'->(bif b' then x else y)=z →
   opsK P N ops n inner (os.take m) (ρ.put c (.bool b')) w.heap (λρ' h'=>chk (WaQ ops pk ρ'&&cIs ρ' c b') (Hy ρ' z λr=>J r h'))->wpStill P ops w Q (os.take m++(pk::rest++tail)) a:=by
   intro b' z e ez hseg;refine VR n hseg W (hf.lit hb e) λρ' a' g E A=>?_;rw[WH]at A;simp only[zF]at A;obtain⟨⟨hg,aa⟩,A⟩:=A;obtain⟨r,V,L⟩:=UD A;exact j r b' z a' e ez (g.seg hb e E) L (Qb g hg) (g.ev _ _ (G0 aa)) (g.ev _ _ V)
  have p:∀(b':Bool),b=b'->b' = !and->J (!and) w.heap->wpStill P ops w Q (os.take m++(pk::rest++tail)) a:=by
   intro b' e eb L;subst eb;refine WbL s (hf.lit hb e) λa' g=>?_;have G:Fits N (ρ.hide ((os.take m).filterMap (·.dst))) a':=g.seg (ρ':=(ρ.put c (.bool (!and))).hide ((os.take m).filterMap (·.dst))) hb e (λi hi v hv=>by simp only[Env.hide,hi];exact hv);have u:=g.ev (.tmp c) _ (G0 hcc);refine j (!and) (!and) (bif (!and)then x else y) a' e rfl G L (Qb G Z) u ?_;refine Wf5 ?_ _ (λv=>rfl);cases and<;>exact H
  cases and
  ·simp only[cond_false]at h;cases b
   ·exact run false y rfl rfl (h.f rfl)
   ·exact p true rfl rfl (h.t rfl)
  ·simp only[cond_true]at h;cases b
   ·exact p false rfl rfl (h.f rfl)
   ·exact run true x rfl rfl (h.t rfl)
inductive RH where
 | seq (hs:List RI)
 | quiet (hs:List RI)
 | tail (n:Nat) (hs1 hs2:List RI)
 | held (sm:Bool) (C:List Nat) (sh:SH)
 | heldJ (sm:Bool) (C:List Nat) (js:Js) (sh:SH)
def WgC (ops:Array Oper):List Nat:=ops.toList.filterMap (·.dst)
def regK (P:Program)(N:Nat)(r:RH)(ops:Array Oper)(draw:Bool)(ρ:Env)(h:Hp)(K:Env->Hp->Prop):Prop:=
 match r,draw with
 | .seq hs,false=>opsK P N ops 400 hs ops.toList ρ h K
 | .quiet hs,true=>chk (P.follows .mixedOrders&&(Region.lexB .any ops&&allQ ops.toList)) (opsK P N ops 400 hs ops.toList ρ h K)
 | .tail n hs1 hs2,true=>chk (P.follows .mixedOrders&&(Region.lexTailB .any ops n&&allQ (ops.toList.take n)))
  (opsK P N ops 400 hs1 (ops.toList.take n) ρ h λρ' h'=>opsK P N ops 400 hs2 (ops.toList.drop n) ρ' h' K)
 | .held sm C sh,true=>chk (P.follows .mixedOrders&&Region.noSelect ops) (Wnr P N sm C sh ops ρ h K)
 | .heldJ sm C js sh,true=>chk (P.follows .mixedOrders&&(Region.noSelect ops&&js.all λs=>isIn (WgC ops) s.1))
  (Jn (ksJ js) (lam (ksJ js) λvs h'=>K (putJ (ρ.hide (WgC ops)) js vs) h') λJ=>Wnr P N sm C sh ops ρ h λρ' h'=>apJ js ρ' J h')
 | _,_=>False
theorem Wg6 {P:Program}{N id:Nat}{r:RH}{ops:Array Oper}{draw:Bool}{ρ:Env}{a:Act}{w:World}{K:Env->Hp->Prop}{Q:Exit->Act->World->Prop}
 (h:regK P N r ops draw ρ w.heap K) (hf:Fits N ρ a) (hK:∀ρ' a' w',Fits N ρ' a'->ZP w w'->UM ops.toList ρ ρ'->K ρ' w'.heap->Q .normal a' w'):(Code.region id ops draw).wp P Q a w:=by
 unfold regK at h;split at h
 ·rename_i H;refine wp_region_list ?_;have:=KY (Q:=Q) (tail:=[]) 400 h hf λρ' a' w' d s g e=>hK ρ' a' w' d s g e;simpa using this
 ·rename_i H;rw[WH]at h;simp only[zF]at h;obtain⟨⟨p,B,D⟩,h⟩:=h;refine wp_region_still p B ?_;have:=VR (w:={w with drawn:=w.drawn+1}) (Q:=λa'=>Q .normal a' {w with drawn:=w.drawn+1}) (tail:=[]) 400 h D hf λρ' a' d g e=>hK ρ' a' _ d ⟨rfl,rfl,rfl,zD _⟩ g e;simpa using this
 ·rename_i n hs1 hs2;rw[WH]at h;simp only[zF]at h;obtain⟨⟨p,B,D⟩,h⟩:=h;obtain⟨l,rfl⟩:∃l:List Oper,ops=l.toArray:=⟨ops.toList,by simp⟩;refine wp_region_still_tail n p B ?_;have:=VR (w:={w with drawn:=w.drawn+1}) (ops:=l.toArray) (Q:=λa'=>wpList P l.toArray Q (l.drop n) a' {w with drawn:=w.drawn+1}) (tail:=[]) 400 h (by simpa using D) hf (λρ' a' d g e=>by
   have:=KY (Q:=Q) (tail:=[]) (w:={w with drawn:=w.drawn+1}) 400 e d λA z x u s E F=>hK A z x u (ZP.trans (b:={w with drawn:=w.drawn+1}) ⟨rfl,rfl,rfl,zD _⟩ s) (λi j v G=>?_) F
   ·simpa[wpStill]using this
   ·rw[show l.toArray.toList=l.take n++l.drop n by simp,zDZ]at j;simp only[zCW,zR,decide_eq_false_iff_not,not_or]at j;exact E i (by simpa using j.2) v (g i (by simpa using j.1) v G))
  simpa using this
 ·rename_i sm sh;rw[WH]at h;simp only[zF]at h;exact Uv h.1.1 h.1.2 h.2 hf hK
 ·rename_i sm js sh;rw[WH]at h;simp only[zF]at h;obtain⟨⟨p,m,C⟩,J,L,h⟩:=h;refine Uv p m h hf λρ' a' w' d s g e=>?_;obtain⟨vs,G,H⟩:=Wb5 e;have y:=UU (H.mono L);refine hK _ a' w' (VT js (H6 d g) d G) s ?_ y;exact((H4 (WgC ops) ρ).trans (Va (WgC ops) js (ρ.hide (WgC ops)) vs C)).mono λi j=>by
   simp only[zR]at j;rcases j with h|h<;>exact h
 ·exact h.elim
def dsts:Code->List Nat
 | .region _ ops _=>WgC ops
 | .seq a b=>dsts a++dsts b
 | .cond _ a b=>dsts a++dsts b
 | .block _ b=>dsts b
 | .loop b=>dsts b
 | .scope b=>dsts b
 | _=>[]
def Wbc:(ks:List CK)->Fam ks->FamN ks->(Nat->Prop)->Fam ks
 | [],I,μ,p=>λh=>I h/\p (μ h)
 | c::cs,I,μ,p=>λx=>Wbc cs (I x) (μ x) p
def W8 (ks:List CK)(start:Fam ks->Prop)(round:Fam ks->Fam ks):Prop:=
 ∃(I:Fam ks) (μ:FamN ks),start I/\∀m:Nat,Fam.le ks (Wbc ks I μ (· = m)) (round (Wbc ks I μ (· < m)))
inductive Hn where
 | leaf
 | reg (r:RH)
 | seq (a b:Hn)
 | sjn (js:Js) (a b:Hn)
 | cond (a b:Hn)
 | block (b:Hn)
 | loop (js:Js) (b:Hn)
 | scope (b:Hn)
def RI.ops:Nat->List RI
 | 0=>[]
 | n+1=>.op::RI.ops n
abbrev Hn.l:Hn:=.leaf
abbrev Hn.q (a b:Hn):Hn:=.seq a b
abbrev Hn.c (a b:Hn):Hn:=.cond a b
abbrev Hn.k (a:Hn):Hn:=.block a
def Hn.o (n:Nat):Hn:=.reg (.seq (RI.ops n))
abbrev Hn.o1:Hn:=.o 1
abbrev Hn.o2:Hn:=.o 2
abbrev Hn.aJ:Hn:=.c (.q .o2 .l) .l
abbrev Hn.aK:Hn:=.c (.q .o1 .l) .l
abbrev Hn.aL:Hn:=.q .o2 .l
abbrev Hn.aM:Hn:=.q .o1 .l
abbrev Hn.o3:Hn:=.o 3
abbrev Hn.o4:Hn:=.o 4
abbrev Hn.o5:Hn:=.o 5
abbrev Hn.o6:Hn:=.o 6
abbrev Hn.o7:Hn:=.o 7
abbrev Hn.o8:Hn:=.o 8
abbrev Hn.o9:Hn:=.o 9
abbrev Hn.o10:Hn:=.o 10
def Hn.oq (n:Nat):Hn:=.reg (.quiet (RI.ops n))
def WnS (next:Env->Hp->Prop)(Q:Exit->Env->Hp->Prop):Exit->Env->Hp->Prop
 | .normal,ρ,h=>next ρ h
 | e,ρ,h=>Q e ρ h
def WoJ (id:Nat)(Q:Exit->Env->Hp->Prop):Exit->Env->Hp->Prop
 | .exit i,ρ,h=>match Nat.beq i id with
  | true=>Q .normal ρ h
  | false=>Q (.exit i) ρ h
 | e,ρ,h=>Q e ρ h
def noG (Q:Exit->Env->Hp->Prop):Exit->Env->Hp->Prop
 | .goto _,_,_=>False
 | e,ρ,h=>Q e ρ h
def cwp (P:Program)(N:Nat):Code->Hn->(Exit->Env->Hp->Prop)->Env->Hp->Prop
 | .skip,_,Q,ρ,h=>Q .normal ρ h
 | .ret,_,Q,ρ,h=>Q .ret ρ h
 | .exit id,_,Q,ρ,h=>Q (.exit id) ρ h
 | .region _ ops d,.reg r,Q,ρ,h=>regK P N r ops d ρ h λρ' h'=>Q .normal ρ' h'
 | .seq a b,.seq x y,Q,ρ,h=>cwp P N a x (WnS (λρ' h'=>cwp P N b y Q ρ' h') Q) ρ h
 | .seq a b,.sjn js x y,Q,ρ,h=>chk (js.all λs=>isIn (dsts a) s.1)
  (Jn (ksJ js) (lam (ksJ js) λvs h'=>cwp P N b y Q (putJ (ρ.hide (dsts a)) js vs) h') λJ=>cwp P N a x (WnS (λρ' h'=>apJ js ρ' J h') Q) ρ h)
 | .cond c a b,.cond x y,Q,ρ,h=>Hy ρ c λt=>If t (cwp P N a x Q ρ h) (cwp P N b y Q ρ h)
 | .block id b,.block x,Q,ρ,h=>cwp P N b x (WoJ id Q) ρ h
 | .scope b,.scope x,Q,ρ,h=>cwp P N b x (noG Q) ρ h
 | .label _,_,Q,ρ,h=>Q .normal ρ h
 | .loop b,.loop js x,Q,ρ,h=>chk (js.all λs=>isIn (dsts b) s.1)
  (W8 (ksJ js) (λI=>apJ js ρ I h) λJ=>lam (ksJ js) λvs h'=>cwp P N b x (WnS (λρ' h''=>apJ js ρ' J h'') Q) (putJ (ρ.hide (dsts b)) js vs) h')
 | _,_,_,_,_=>False
theorem Wbr:∀{ks:List CK} {I:Fam ks} {μ:FamN ks} {p:Nat->Prop} {vs:List Value} {h:Hp},Sat ks (Wbc ks I μ p) vs h->∃n,p n/\Sat ks (Wbc ks I μ (· = n)) vs h
 | [],I,μ,p,[],h,hs=>⟨μ h,hs.2,hs.1,rfl⟩
 | c::cs,I,μ,p,v::vs,h,⟨x,e,hs⟩=>by
  obtain⟨n,hp,hn⟩:=Wbr (I:=I x) (μ:=μ x) hs;exact⟨n,hp,x,e,hn⟩
 | [],I,μ,p,_::_,h,hs=>hs.elim
 | _::_,I,μ,p,[],h,hs=>hs.elim
theorem WaA:∀{ks:List CK} {I:Fam ks} (μ:FamN ks) {vs:List Value} {h:Hp},Sat ks I vs h->∃n,Sat ks (Wbc ks I μ (· = n)) vs h
 | [],I,μ,[],h,hs=>⟨μ h,hs,rfl⟩
 | c::cs,I,μ,v::vs,h,⟨x,e,hs⟩=>by
  obtain⟨n,hn⟩:=WaA (I:=I x) (μ x) hs;exact⟨n,x,e,hn⟩
 | [],I,μ,_::_,h,hs=>hs.elim
 | _::_,I,μ,[],h,hs=>hs.elim
theorem WcQ {p:Nat->Prop}(h:∃n,p n):∃n,p n/\∀m,p m->n<=m:=by
 obtain⟨n,d⟩:=h
 induction n using Nat.strongRecOn with
 | _ n ih=>
  by_cases hm:∃m,m<n/\p m
  ·obtain⟨m,a,b⟩:=hm;exact ih m a b
  ·exact⟨n,d,λm b=>Nat.le_of_not_lt λa=>hm ⟨m,a,b⟩⟩
open Classical in
noncomputable def Wdc (p:Nat->Prop):Nat:=if h:∃n,p n then(WcQ h).choose else 0
theorem Wel {p:Nat->Prop}(h:∃n,p n):p (Wdc p):=by
 unfold Wdc;rw[dif_pos h];exact(WcQ h).choose_spec.1
theorem Win {p:Nat->Prop}{n:Nat}(h:p n):Wdc p<=n:=by
 unfold Wdc;rw[dif_pos ⟨n,h⟩];exact(WcQ ⟨n,h⟩).choose_spec.2 n h
theorem Whq {P:Program}{c:Code}{Q:Exit->Act->World->Prop}{a:Act}{w:World}(I:Nat->Act->World->Prop)(h0:∃n,I n a w)
 (round:∀n a w,I n a w->c.wp P (Exit.then (λa' w'=>∃m,m<n/\I m a' w') Q) a w):(Code.loop c).wp P Q a w:=by
 refine wp_loop (λa w=>∃n,I n a w) (λa w=>Wdc λn=>I n a w) h0 λa w g=>?_;refine wp_mono (round _ a w (Wel g)) λe a' w' d=>?_;cases e<;>try exact d
 obtain⟨m,i,b⟩:=d;exact⟨⟨m,b⟩,Nat.lt_of_le_of_lt (Win b) i⟩
theorem Q3 {P:Program}{N:Nat}:∀(c:Code) {x:Hn} {Q:Exit->Env->Hp->Prop} {Q':Exit->Act->World->Prop} {ρ:Env} {a:Act} {w:World},
 cwp P N c x Q ρ w.heap->Fits N ρ a->(∀e ρ' a' w',Fits N ρ' a'->ZP w w'->Vt (dsts c) ρ ρ'->Q e ρ' w'.heap->Q' e a' w')->c.wp P Q' a w
 | .skip,x,Q,Q',ρ,a,w,h,hf,hq=>by
  have h':Q .normal ρ w.heap:=by cases x<;>exact h
  exact wp_skip (hq _ ρ a w hf (.refl _) (.refl _ _) h')
 | .ret,x,Q,Q',ρ,a,w,h,hf,hq=>by
  have h':Q .ret ρ w.heap:=by cases x<;>exact h
  exact wp_ret (hq _ ρ a w hf (.refl _) (.refl _ _) h')
 | .exit id,x,Q,Q',ρ,a,w,h,hf,hq=>by
  have h':Q (.exit id) ρ w.heap:=by cases x<;>exact h
  exact wp_exit (hq _ ρ a w hf (.refl _) (.refl _ _) h')
 | .region id ops d,x,Q,Q',ρ,a,w,h,hf,hq=>by
  cases x<;>simp only[cwp]at h
  exact Wg6 h hf λρ' a' w' b p r j=>hq _ ρ' a' w' b p r j
 | .seq c1 c2,x,Q,Q',ρ,a,w,h,hf,hq=>by
  cases x<;>simp only[cwp]at h
  case seq x y=>
   refine wp_seq (Q3 c1 h hf λe ρ' a' w' b p r j=>?_);cases e
   case normal=>exact Q3 c2 j b λe ρ'' A z g u C F=>hq e ρ'' A z g (p.trans u) (r.trans C) F
   all_goals exact hq _ ρ' a' w' b p (r.mono λi s=>zBF _ s) j
  case sjn js x y=>
   rw[WH]at h;obtain⟨E,J,Z,h⟩:=h;refine wp_seq (Q3 c1 h hf λe ρ' a' w' b p r j=>?_);cases e
   case normal=>
    obtain⟨vs,U,H⟩:=Wb5 j;have D:=UU (H.mono Z);have K:=VT js (H6 b r) b U;refine Q3 c2 D K λe ρ'' A z g u C F=>hq e ρ'' A z g (p.trans u) ?_ F;have Y:=(H4 (dsts c1) ρ).trans (Va (dsts c1) js (ρ.hide (dsts c1)) vs E);exact(Y.trans C).mono λi s=>by
     simp only[dsts,zR]at s ⊢;rcases s with(h|h)|h
     ·exact Or.inl h
     ·exact Or.inl h
     ·exact Or.inr h
   all_goals exact hq _ ρ' a' w' b p (r.mono λi s=>zBF _ s) j
 | .cond c c1 c2,x,Q,Q',ρ,a,w,h,hf,hq=>by
  cases x<;>simp only[cwp]at h
  obtain⟨t,ht,h⟩:=UD h;refine wp_cond_split (hf.ev _ _ ht) (λe=>?_) (λe=>?_)
  ·exact Q3 c1 (h.t e) hf λe ρ' a' w' b p r j=>hq e ρ' a' w' b p (r.mono λi s=>zBF _ s) j
  ·exact Q3 c2 (h.f e) hf λe ρ' a' w' b p r j=>hq e ρ' a' w' b p (r.mono λi s=>zBV _ s) j
 | .block id c1,x,Q,Q',ρ,a,w,h,hf,hq=>by
  cases x<;>simp only[cwp]at h
  refine wp_block (Q3 c1 h hf λe ρ' a' w' b p r j=>?_);cases e
  case exit i=>
   simp only[WoJ]at j;simp only[Exit.inBlock];split at j
   ·rename_i e;have L:i=id:=zAK e;rw[zB L];exact hq _ ρ' a' w' b p r j
   ·rename_i e;have L:i≠id:=λh=>by subst h;simp at e
    rw[zA L];exact hq _ ρ' a' w' b p r j
  all_goals exact hq _ ρ' a' w' b p r j
 | .loop c1,x,Q,Q',ρ,a,w,h,hf,hq=>by
  cases x<;>simp only[cwp]at h
  rename_i js x;rw[WH]at h;obtain⟨E,I,μ,H,W⟩:=h;refine Whq (λn a' w'=>∃vs,Fits N (putJ (ρ.hide (dsts c1)) js vs) a'/\ZP w w'/\Sat (ksJ js) (Wbc (ksJ js) I μ (· = n)) vs w'.heap) ?_ ?_
  ·obtain⟨vs,U,H⟩:=Wb5 H;obtain⟨n,M⟩:=WaA μ H;exact⟨n,vs,VT js (hf.weaken (Wd3 _ _)) hf U,.refl _,M⟩
  ·rintro n a' w' ⟨vs,b,p,M⟩;have:=UU (M.mono (W n));have V:=(H4 (dsts c1) ρ).trans (Va (dsts c1) js (ρ.hide (dsts c1)) vs E);refine Q3 c1 this b λe ρ'' A z g u r j=>?_;have B:Vt (dsts c1) ρ ρ'':=(V.trans r).mono λi s=>by
    simp only[zR]at s;rcases s with(h|h)|h<;>exact h
   cases e
   case normal=>
    obtain⟨S,R,D⟩:=Wb5 j;obtain⟨m,X,G⟩:=Wbr D;exact⟨m,X,S,VT js (H6 g B) g R,p.trans u,G⟩
   all_goals exact hq _ ρ'' A z g (p.trans u) B j
 | .scope c1,x,Q,Q',ρ,a,w,h,hf,hq=>by
  cases x<;>simp only[cwp]at h
  refine wp_scope_straight (Q3 c1 h hf λe ρ' a' w' b p r j=>?_);cases e
  case goto l=>exact j.elim
  all_goals exact hq _ ρ' a' w' b p r j
 | .label l,x,Q,Q',ρ,a,w,h,hf,hq=>by
  have h':Q .normal ρ w.heap:=by cases x<;>exact h
  exact wp_label (hq _ ρ a w hf (.refl _) (.refl _ _) h')
 | .rangeFunc ..,x,Q,Q',ρ,a,w,h,hf,hq=>(by cases x<;>simp only[cwp]at h)
 | .goto ..,x,Q,Q',ρ,a,w,h,hf,hq=>(by cases x<;>simp only[cwp]at h)
 | .refuse ..,x,Q,Q',ρ,a,w,h,hf,hq=>(by cases x<;>simp only[cwp]at h)
def res1 (P:Program)(r:ResultVar)(s:SK)(ρ:Env)(h:Hp)(K:List Value->Prop):Prop:=
 match r,s with
 | .tmp t,.one _=>wv (ρ t) λv=>K [v]
 | .tmp t,.agg cs=>wv (ρ t) λv=>match v with
  | .agg a=>chk (a.size==cs.length) (K a.toList)
  | _=>False
 | .cell a t,.one c=>wv (ρ a) λv=>match v,skOf P t with
  | .pointer (some ad),some (.one _)=>Ld1 c ad h λx=>K [c.v x]
  | _,_=>False
 | .cell a t,.agg cs=>wv (ρ a) λv=>match v,skOf P t with
  | .pointer (some ad),some (.agg _)=>chk (P.cellsOf t==cs.length&&(P.info? t).isSome) (LdN cs ad 0 h λvs=>K vs)
  | _,_=>False
def resK (P:Program):List ResultVar->List SK->Env->Hp->(List Value->Prop)->Prop
 | [],[],_,_,K=>K []
 | r::rs,s::ss,ρ,h,K=>res1 P r s ρ h λvs=>resK P rs ss ρ h λus=>K (vs++us)
 | _,_,_,_,_=>False
def retQ (P:Program)(fn:Func)(rs:List SK)(R:Fam (ksOf rs)):Exit->Env->Hp->Prop
 | .normal,ρ,h=>resK P fn.results.toList rs ρ h λvs=>apF (ksOf rs) R vs h
 | .ret,ρ,h=>resK P fn.results.toList rs ρ h λvs=>apF (ksOf rs) R vs h
 | _,_,_=>False
def Wi2 (vs:List Value):Env:=λi=>vs[i]?
def fnK (P:Program)(fn:Func)(x:Hn)(args:List Value)(rs:List SK)(R:Fam (ksOf rs))(h:Hp):Prop:=
 match fn.body with
 | some c=>chk (Nat.ble args.length fn.ntmps) (cwp P fn.ntmps c x (retQ P fn rs R) (Wi2 args) h)
 | none=>False
def U2:SK->List Value->Value
 | .one _,[v]=>v
 | .one _,_=>undef
 | .agg _,vs=>.agg vs.toArray
def Waw (tmps:Array Value):ResultVar->Sem Value
 | .tmp t=>pure (tmps.getD t undef)
 | .cell b t=>do loadVar t (←asAddr (tmps.getD b undef))
theorem WgD (fn:Func)(tmps:Array Value):results fn tmps=(do
 let vs ←fn.results.mapM (Waw tmps)
 pure (if h:vs.size=1 then vs[0]else .tuple vs)):=by
 unfold results
 congr 1
theorem Wgt {P:Program}{r:ResultVar}{s:SK}{ρ:Env}{K:List Value->Prop}{a:Act}{N:Nat}{w:World}(hf:Fits N ρ a)(h:res1 P r s ρ w.heap K) :
 ∃vs,vs.length=s.ks.length/\K vs/\(Waw a.tmps r).run P w=.ok (U2 s vs) w:=by
 unfold res1 at h;split at h
 ·rename_i t c;obtain⟨v,g,e⟩:=Wq h;refine⟨[v],rfl,e,?_⟩;simp[Waw,zCV,hf.at_ _ _ g,U2]
 ·rename_i t cs;obtain⟨v,g,e⟩:=Wq h;split at e
  ·rename_i ar;rw[WH]at e;refine⟨ar.toList,by simpa[SK.ks]using e.1,e.2,?_⟩;simp[Waw,zCV,hf.at_ _ _ g,U2]
  ·exact e.elim
 ·rename_i b t c;obtain⟨v,g,e⟩:=Wq h;split at e
  ·rename_i ad c' hs;obtain⟨d,hd,i⟩:=WfY hs;obtain⟨x,m,e⟩:=WaP e;refine⟨[c.v x],rfl,e,?_⟩;simp only[Waw,zCV,hf.at_ _ _ g,zBU,asAddr,Sem.run_bind,Sem.run_pure,Result.andThen_ok,loadVar,KF hd,i,U2];simpa using WcD m
  ·exact e.elim
 ·rename_i b t cs;obtain⟨v,g,e⟩:=Wq h;split at e
  ·rename_i ad cs' hs;rw[WH]at e;obtain⟨j,e⟩:=e;simp only[zF,zZ]at j;obtain⟨d,hd,i⟩:=Wfu hs;obtain⟨vs,p,e,u⟩:=Wa5 (P:=P) e;refine⟨vs,p,e,?_⟩;simp only[Waw,zCV,hf.at_ _ _ g,zBU,asAddr,Sem.run_bind,Sem.run_pure,Result.andThen_ok,loadVar,KF hd,i,zS,QO j.2,loadCells,j.1,u,U2];simp
  ·exact e.elim
theorem Wbu {P:Program}{ρ:Env}{a:Act}{N:Nat}{w:World}(hf:Fits N ρ a):∀{rv:List ResultVar} {rs:List SK} {K:List Value->Prop},resK P rv rs ρ w.heap K →
 ∃vs,K vs/\(rv.mapM (Waw a.tmps)).run P w=.ok (Wbh rs vs) w
 | [],[],K,h=>⟨[],h,by simp[Wbh]⟩
 | r::rv,s::rs,K,h=>by
  obtain⟨v1,hl,hK,hr⟩:=Wgt hf h;obtain⟨e,b,d⟩:=Wbu hf hK;refine⟨v1++e,b,?_⟩;simp only[List.mapM_cons,Sem.run_bind,hr,Result.andThen_ok,d,Sem.run_pure];cases s with
  | one c=>
   match v1,hl with
   | [v],_=>simp[Wbh,U2]
  | agg cs=>
   simp only[SK.ks]at hl;simp only[Wbh,U2,←hl,List.take_left,List.drop_left]
 | [],_::_,K,h=>h.elim
 | _::_,[],K,h=>h.elim
theorem Wat {P:Program}{fn:Func}{ρ:Env}{a:Act}{N:Nat}{w:World}{rs:List SK}{K:List Value->Prop}(hf:Fits N ρ a)(h:resK P fn.results.toList rs ρ w.heap K) :
 ∃vs,K vs/\(results fn a.tmps).run P w=.ok (pack rs vs) w:=by
 obtain⟨vs,d,b⟩:=Wbu hf h;refine⟨vs,d,?_⟩;rw[WgD,Array.mapM_eq_mapM_toList];simp only[Sem.run_bind,Sem.run_map,b,Result.andThen_ok,Sem.run_pure,pack];split
 ·rename_i h1
  match hp:Wbh rs vs,h1 with
  | [v],_=>simp
 ·rename_i h1
  match hp:Wbh rs vs,h1 with
  | [],_=>rfl
  | [v],h1=>simp at h1
  | _::_::_,_=>rfl
theorem R0 {a b:Prop}(f:b)(e:a=b:=by kernel_rfl):a:=e.mpr f
theorem Wa {P:Program}{f:Nat}{fn:Func}{x:Hn}{args:List Value}{rs:List SK}{R:Fam (ksOf rs)}{h:Hp}(hfn:P.funcs[f]?=some fn)(hk:fnK P fn x args rs R h):We P f args.toArray rs h R:=by
 intro w hw;subst hw;unfold fnK at hk;split at hk
 case h_2=>exact hk.elim
 rename_i c hb;rw[WH]at hk;obtain⟨j,hk⟩:=hk;have r:args.length<=fn.ntmps:=Nat.le_of_ble_eq_true j;refine calls_of_wp hfn hb ?_;refine Q3 c hk (ρ:=Wi2 args) ⟨rfl,by simp;omega,λi v p=>?_⟩ λe A y u a s z g=>?_
 ·simp only[Wi2]at p;have m:i<args.length:=(gSi.1 p).1;rw[zGG (by simpa using m)];simpa using p
 ·cases e<;>simp only[retQ]at g
  case normal=>
   obtain⟨vs,b,d⟩:=Wat a g;exact⟨a.defers,_,d,s,vs,rfl,WcG b⟩
  case ret=>
   obtain⟨vs,b,d⟩:=Wat a g;exact⟨a.defers,_,d,s,vs,rfl,WcG b⟩
theorem Wn4 {start:Fam []->Prop}{round:Fam []->Fam []}(I:aP)(μ:Hp->Nat)(h0:start I)
 (hr:∀h,I h->round (λh'=>I h'/\μ h'<μ h) h):W8 [] start round:=
 ⟨I,μ,h0,λ_ h ⟨a,b⟩=>b▸hr h a⟩
theorem ZS {a:CK}{start:Fam [a]->Prop}{round:Fam [a]->Fam [a]}(I:a.T->Hp->Prop)(μ:a.T->Hp->Nat)(h0:start I)
 (hr:∀x h,I x h->round (λx' h'=>I x' h'/\μ x' h'<μ x h) x h):W8 [a] start round:=
 ⟨I,μ,h0,λ_ x h ⟨b,d⟩=>d▸hr x h b⟩
theorem Ko {a bb:CK}{start:Fam [a,bb]->Prop}{round:Fam [a,bb]->Fam [a,bb]}(I:a.T->bb.T->Hp->Prop)(μ:a.T->bb.T->Hp->Nat)(h0:start I)
 (hr:∀x y h,I x y h->round (λx' y' h'=>I x' y' h'/\μ x' y' h'<μ x y h) x y h):W8 [a,bb] start round:=
 ⟨I,μ,h0,λ_ x y h ⟨b,d⟩=>d▸hr x y h b⟩
theorem WnW {a bb c:CK}{start:Fam [a,bb,c]->Prop}{round:Fam [a,bb,c]->Fam [a,bb,c]}(I:a.T->bb.T->c.T->Hp->Prop)(μ:a.T->bb.T->c.T->Hp->Nat)(h0:start I)
 (hr:∀x y z h,I x y z h->round (λx' y' z' h'=>I x' y' z' h'/\μ x' y' z' h'<μ x y z h) x y z h):W8 [a,bb,c] start round:=
 ⟨I,μ,h0,λ_ x y z h ⟨b,d⟩=>d▸hr x y z h b⟩
theorem Wom {a bb c d e:CK}{start:Fam [a,bb,c,d,e]->Prop}{round:Fam [a,bb,c,d,e]->Fam [a,bb,c,d,e]}(I:a.T->bb.T->c.T->d.T->e.T->Hp->Prop)(μ:a.T->bb.T->c.T->d.T->e.T->Hp->Nat)(h0:start I)
 (hr:∀x y z u v h,I x y z u v h->round (λx' y' z' u' v' h'=>I x' y' z' u' v' h'/\μ x' y' z' u' v' h'<μ x y z u v h) x y z u v h):W8 [a,bb,c,d,e] start round:=
 ⟨I,μ,h0,λ_ x y z u v h ⟨b,g⟩=>g▸hr x y z u v h b⟩
theorem nilP {a:Addr}{K:Addr->Prop}(h:K a):NilP (some a) K:=⟨a,rfl,h⟩
theorem ldI {k:IntKind}{a:Addr}{h:Hp}{n:Int}{K:Int->Prop}(hc:cell h a=some (.int k n))(hK:K n):LdI k a h K:=⟨n,hc,hK⟩
theorem ldB {a:Addr}{h:Hp}{n:Bool}{K:Bool->Prop}(hc:cell h a=some (.bool n))(hK:K n):LdB a h K:=⟨n,hc,hK⟩
theorem ldP {a:Addr}{h:Hp}{n:Option Addr}{K:Option Addr->Prop}(hc:cell h a=some (.pointer n))(hK:K n):LdP a h K:=⟨n,hc,hK⟩
theorem ldM {a:Addr}{h:Hp}{n:Option Nat}{K:Option Nat->Prop}(hc:cell h a=some (.map n))(hK:K n):LdM a h K:=⟨n,hc,hK⟩
theorem ldS {a:Addr}{h:Hp}{x:Option Addr}{n c:Nat}{K:Sl->Prop}(hc:cell h a=some (.slice x n c))(hK:K ⟨x,n,c⟩):LdS a h K:=⟨⟨x,n,c⟩,hc,hK⟩
theorem UG {e:Int}(h1 : -9223372036854775808<=e)(h2:e<=9223372036854775807):IntKind.i64.wrap e=e:=by
 unfold IntKind.wrap;simp[IntKind.bits,IntKind.signed];omega
theorem ar {e:Int}{K:Int->Prop}(h1 : -9223372036854775808<=e)(h2:e<=9223372036854775807)(hK:K e):Ar .i64 e K:=by
 unfold Ar;rw[UG h1 h2];exact hK
theorem Wj1 (e:Int) : -9223372036854775808<=IntKind.i64.wrap e/\IntKind.i64.wrap e<=9223372036854775807:=by
 unfold IntKind.wrap;simp[IntKind.bits,IntKind.signed];omega
theorem nz {y:Int}{A:Prop}(h:y≠0)(hA:A):Nz y A:=⟨h,hA⟩
theorem nn {y:Int}{A:Prop}(h:0<=y)(hA:A):Nn y A:=⟨h,hA⟩
theorem ix {a:Addr}{n:Nat}{i:Int}{sz:Nat}{K:Addr->Prop}(h0:0<=i)(h1:i<(n:Int))(hK:K (a.add (i.toNat*sz))):Ix (some a) n i sz K:=⟨a,rfl,h0,h1,hK⟩
theorem iff_ {b:Bool}{A B:Prop}(h1:b=true->A)(h2:b=false->B):If b A B:=If.mk h1 h2
theorem ifD {p:Prop}[Decidable p]{A B:Prop}(h1:p->A)(h2:¬p->B):If (decide p) A B:=
 If.mk (λh=>h1 (zBZ h)) (λh=>h2 (zCR h))
theorem ifT {b:Bool}{A B:Prop}(hb:b=true)(h:A):If b A B:=by subst hb;exact h
theorem ifF {b:Bool}{A B:Prop}(hb:b=false)(h:B):If b A B:=by subst hb;exact h
theorem ifDT {p:Prop}[Decidable p]{A B:Prop}(hp:p)(h:A):If (decide p) A B:=ifT (by simpa using hp) h
theorem ifDF {p:Prop}[Decidable p]{A B:Prop}(hp:¬p)(h:B):If (decide p) A B:=ifF (by simpa using hp) h
theorem WfE (a:Int)(n:Nat):a.fdiv (2^n)=a/2^n:=Int.fdiv_eq_ediv_of_nonneg _ (Int.le_of_lt (Int.pow_pos aB))
theorem YM {a b:Int}(h:0<=a):a.tdiv b=a/b:=Int.tdiv_eq_ediv_of_nonneg h
theorem Q7 {a b:Int}(h:0<=a):a.tmod b=a%b:=Int.tmod_eq_emod_of_nonneg h
def Blk (h:Hp)(b:Nat)(cs:List Value):Prop:=∃e,h[b]?=some (.cells cs.toArray e (0,0))
theorem Blk.lt {h:Hp}{b:Nat}{cs:List Value}(hb:Blk h b cs):b<h.size:=by
 obtain⟨e,a⟩:=hb;exact(zAQ.1 a).1
theorem Blk.cell {h:Hp}{b o:Nat}{cs:List Value}(hb:Blk h b cs):cell h ⟨b,o,none⟩=cs[o]? := by
 obtain⟨e,a⟩:=hb;simp[Vc.cell,a]
theorem Blk.frz {h:Hp}{b o:Nat}{cs:List Value}(hb:Blk h b cs):frz h ⟨b,o,none⟩=false:=by
 obtain⟨e,a⟩:=hb;simp[Vc.frz,a]
theorem Blk.set {h:Hp}{b o:Nat}{cs:List Value}(hb:Blk h b cs)(v:Value):Blk (setc h ⟨b,o,none⟩ v) b (cs.set o v):=by
 obtain⟨e,a⟩:=hb;refine⟨e,?_⟩;simp[setc,zFK,a]
theorem VN {h:Hp}{a:Addr}{v:Value}{b:Nat}(hne:b≠a.block):(setc h a v)[b]?=h[b]? := by
 simp only[setc,zFK];rw[zA (Ne.symm hne)]
theorem add_lit (b o n:Nat):Addr.add ⟨b,o,none⟩ n=⟨b,o+n,none⟩:=Addr.add_lit b o n
def BlkQ (h:Hp)(b:Nat)(cs:List Value):Prop:=∃e z,h[b]?=some (.cells cs.toArray e z)
theorem Blk.q {h:Hp}{b:Nat}{cs:List Value}(hb:Blk h b cs):BlkQ h b cs:=by
 obtain⟨e,a⟩:=hb;exact⟨e,_,a⟩
theorem BlkQ.lt {h:Hp}{b:Nat}{cs:List Value}(hb:BlkQ h b cs):b<h.size:=by
 obtain⟨e,z,a⟩:=hb;exact(zAQ.1 a).1
theorem BlkQ.cell {h:Hp}{b o:Nat}{cs:List Value}(hb:BlkQ h b cs):cell h ⟨b,o,none⟩=cs[o]? := by
 obtain⟨e,z,a⟩:=hb;simp[Vc.cell,a]
def Ext (F:Nat->Prop)(h h':Hp):Prop:=h.size<=h'.size/\∀b,b<h.size->¬F b->h'[b]?=h[b]?
def Ext0 (h h':Hp):Prop:=Ext (λ_=>False) h h'
theorem Ext.refl (F:Nat->Prop)(h:Hp):Ext F h h:=⟨zD _,λ_ _ _=>rfl⟩
theorem Ext.trans {F:Nat->Prop}{a b c:Hp}(h:Ext F a b)(k:Ext F b c):Ext F a c:=
 ⟨zI h.1 k.1,λi e d=>(k.2 i (zEA e h.1) d).trans (h.2 i e d)⟩
theorem Ext.mono {F G:Nat->Prop}{a b:Hp}(h:Ext F a b)(hs:∀i,i<a.size->F i->G i):Ext G a b:=
 ⟨h.1,λi d g=>h.2 i d λe=>g (hs i d e)⟩
theorem Ext0.to {F:Nat->Prop}{a b:Hp}(h:Ext0 a b):Ext F a b:=Ext.mono h λ_ _ h=>h.elim
theorem Ext.trans0 {F:Nat->Prop}{a b c:Hp}(h:Ext F a b)(k:Ext0 b c):Ext F a c:=h.trans k.to
theorem Ext.size {F:Nat->Prop}{a b:Hp}(h:Ext F a b):a.size<=b.size:=h.1
theorem Ext.push (F:Nat->Prop)(h:Hp)(o:Obj):Ext F h (h.push o):=
 ⟨by simp,λb a _=>by rw[zFF,zA (zEM a)]⟩
theorem Ext.of_only {F:Nat->Prop}{h h':Hp}{r:Nat}(ho:QD h h' r)(hr:F r):Ext F h h':=
 ⟨Nat.le_of_eq ho.1.symm,λb _ a=>ho.2 b λe=>a (e▸hr)⟩
theorem Ext.setc {F:Nat->Prop}{h:Hp}{a:Addr}{v:Value}(hr:F a.block):Ext F h (setc h a v):=
 ⟨Nat.le_of_eq (Vg h a v).symm,λb _ d=>VN λe=>d (e▸hr)⟩
theorem Ext.at_ {F:Nat->Prop}{h h':Hp}(e:Ext F h h'){b:Nat}{o:Obj}(hb:h[b]?=some o)(hf:¬F b):h'[b]?=some o:=by
 rw[e.2 b (zAQ.1 hb).1 hf];exact hb
theorem Ext.blk {F:Nat->Prop}{h h':Hp}(e:Ext F h h'){b:Nat}{cs:List Value}(hb:Blk h b cs)(hf:¬F b):Blk h' b cs:=by
 obtain⟨t,a⟩:=hb;exact⟨t,e.at_ a hf⟩
theorem Ext.mapL {F:Nat->Prop}{h h':Hp}(e:Ext F h h'){r:Nat}{k:IntKind}{c:CK}{l:List (Int×c.T)}(hb:MapL h r k c l)(hf:¬F r):MapL h' r k c l:=by
 obtain⟨b,a,d,rest⟩:=hb;exact⟨b,a,e.at_ d hf,rest⟩
theorem MapL.lt {h:Hp}{r:Nat}{k:IntKind}{c:CK}{l:List (Int×c.T)}(hb:MapL h r k c l):r<h.size:=by
 obtain⟨d,a,b,_⟩:=hb;exact(zAQ.1 b).1
theorem MapL.nodup {h:Hp}{r:Nat}{k:IntKind}{c:CK}{l:List (Int×c.T)}(hb:MapL h r k c l):(l.map (·.1)).Nodup:=by
 obtain⟨e,b,d,_,a,_⟩:=hb;exact a
theorem Ws {h h':Hp}{r b:Nat}{cs:List Value}(ho:QD h h' r)(hb:Blk h b cs)(hne:b≠r):Blk h' b cs:=by
 obtain⟨t,a⟩:=hb;exact⟨t,by rw[ho.2 b hne];exact a⟩
theorem Hh {h h':Hp}{r b:Nat}{k:IntKind}{c:CK}{l:List (Int×c.T)}(ho:QD h h' r)(hb:MapL h b k c l)(hne:b≠r):MapL h' b k c l:=by
 obtain⟨d,a,e,rest⟩:=hb;exact⟨d,a,by rw[ho.2 b hne];exact e,rest⟩
end Go.Vc
namespace Go.Bu
open Go Go.Vc
theorem Wc9 {a b:Nat}(ha:a<9223372036854775808)(hb:b<9223372036854775808):bits .xor .i64 (a:Int) (b:Int)=((a ^^^ b:Nat):Int):=by
 have g:a ^^^ b<2^63:=Nat.xor_lt_two_pow O O;have d:(BitVec.ofInt 64 (a:Int)).toNat=a:=by
  rw[BitVec.ofInt_natCast,BitVec.toNat_ofNat];exact zDV O
 have e:(BitVec.ofInt 64 (b:Int)).toNat=b:=by
  rw[BitVec.ofInt_natCast,BitVec.toNat_ofNat];exact zDV O
 show IntKind.i64.wrap ((BitVec.ofInt 64 (a:Int) ^^^ BitVec.ofInt 64 (b:Int)).toNat:Int)=_;rw[BitVec.toNat_xor,d,e,UG]<;>omega
theorem bits_and_i64 {a b:Nat}(ha:a<9223372036854775808)(hb:b<9223372036854775808):bits .and .i64 (a:Int) (b:Int)=((a &&& b:Nat):Int):=by
 have g:a &&& b<2^63:=Nat.and_lt_two_pow _ O;have d:(BitVec.ofInt 64 (a:Int)).toNat=a:=by
  rw[BitVec.ofInt_natCast,BitVec.toNat_ofNat];exact zDV O
 have e:(BitVec.ofInt 64 (b:Int)).toNat=b:=by
  rw[BitVec.ofInt_natCast,BitVec.toNat_ofNat];exact zDV O
 show IntKind.i64.wrap ((BitVec.ofInt 64 (a:Int) &&& BitVec.ofInt 64 (b:Int)).toNat:Int)=_;rw[BitVec.toNat_and,d,e,UG]<;>omega
theorem Wm4 (q:Nat):q ^^^ 1=mate q:=by
 apply Nat.eq_of_testBit_eq;intro i;rw[Nat.testBit_xor];unfold mate;cases i with
 | zero=>
  simp only[Nat.testBit_zero];split<;>rename_i h
  ·have:(q+1)%2=1:=by omega
   simp[h,this]
  ·have a:q%2=1:=by omega
   have:(q-1)%2=0:=by omega
   simp[a,this]
 | succ i=>
  simp only[Nat.testBit_succ];have b:(1:Nat)/2=0:=by decide
  rw[b,Nat.zero_testBit,Bool.xor_false]
  congr 1
  split<;>omega
theorem Wkt (q k:Nat):(q*2^k) ^^^ (2^k)=mate q*2^k:=by
 have h:=Nat.shiftLeft_xor_distrib (a:=q) (b:=1) (i:=k);rw[Wm4,Nat.shiftLeft_eq,Nat.shiftLeft_eq,Nat.shiftLeft_eq,Nat.one_mul]at h;exact h.symm
theorem Wdh {k:Nat}(h:k<=62):2^k<=4611686018427387904:=zBP (n:=2) aB h
def Keys (S:Nat->Bool)(k:Nat)(B:List (Int×Bool)):Prop:=
 (∀x v,(x,v)∈B->v=true/\∃q:Nat,x=((q*2^k:Nat):Int)/\can S k q=true)/\∀q,can S k q=true->(((q*2^k:Nat):Int),true)∈B
structure BH (σ:Hp) (p n:Nat) (S:Nat->Bool) (sb:Nat) (ms:List Nat):Prop where
 hd:∃cap,Blk σ p [.int .i64 n,.slice (some ⟨sb,0,none⟩) ms.length cap]
 row:∃rest,Blk σ sb (ms.map (λm=>Value.map (some m))++rest)
 maps:∀k m,ms[k]?=some m->∃B:List (Int×Bool),MapL σ m .i64 .b B/\Keys S k B
 nd:(p::sb::ms).Nodup
 n1:1<=n
 n2:n<=1024
 lo:2^ms.length<=2*n
 hi:n<2^ms.length
 bnd:Bounded S n
def fp (p sb:Nat)(ms:List Nat)(b:Nat):Prop:=b∈p::sb::ms
variable {σ h':Hp}{p n sb:Nat}{S:Nat->Bool}{ms:List Nat}
theorem BH.len (h:BH σ p n S sb ms):ms.length<=11:=by
 have:=h.lo;have:=h.n2;apply Classical.byContradiction;intro hc;have:2^12<=2^ms.length:=zBP aB O;omega
theorem BH.fits (h:BH σ p n S sb ms){k q:Nat}(hf:q*2^k+2^k<=n):k<ms.length:=by
 apply Classical.byContradiction;intro hc;have:2^ms.length<=2^k:=zBP aB O;have:=h.hi;omega
theorem BH.ldN (h:BH σ p n S sb ms):cell σ ⟨p,0,none⟩=some (.int .i64 n):=by
 obtain⟨cap,a⟩:=h.hd;rw[a.cell];rfl
theorem BH.ldB (h:BH σ p n S sb ms):∃cap,cell σ ⟨p,1,none⟩=some (.slice (some ⟨sb,0,none⟩) ms.length cap):=by
 obtain⟨cap,a⟩:=h.hd;exact⟨cap,by rw[a.cell];rfl⟩
theorem BH.ldR (h:BH σ p n S sb ms){k m:Nat}(hm:ms[k]?=some m):cell σ ⟨sb,k,none⟩=some (.map (some m)):=by
 obtain⟨rest,a⟩:=h.row;rw[a.cell,ze (by simpa using(gSi.1 hm).1),zf,hm];rfl
theorem BH.get (h:BH σ p n S sb ms){k:Nat}(hk:k<ms.length):∃m,ms[k]?=some m:=⟨ms[k],by simp[hk]⟩
theorem BH.keep (h:BH σ p n S sb ms){F:Nat->Prop}(e:Ext F σ h')(hF:∀b,fp p sb ms b->¬F b):BH h' p n S sb ms where
 hd:=by obtain⟨cap,a⟩:=h.hd;exact⟨cap,e.blk a (hF _ (by simp[fp]))⟩
 row:=by obtain⟨rest,a⟩:=h.row;exact⟨rest,e.blk a (hF _ (by simp[fp]))⟩
 maps:=λk m d=>by
  obtain⟨B,i,g⟩:=h.maps k m d;exact⟨B,e.mapL i (hF _ (by simp[fp,zE d])),g⟩
 nd:=h.nd
 n1:=h.n1
 n2:=h.n2
 lo:=h.lo
 hi:=h.hi
 bnd:=h.bnd
theorem BH.keep0 (h:BH σ p n S sb ms)(e:Ext0 σ h'):BH h' p n S sb ms:=h.keep e λ_ _=>id
theorem Wkg {k:Nat}{B:List (Int×Bool)}(hK:Keys S k B)(hn:(B.map (·.1)).Nodup)(q:Nat):mget B ((q*2^k:Nat):Int)=if can S k q then some true else none:=by
 unfold mget;cases hf:B.find? λx=>x.1==((q*2^k:Nat):Int)with
 | some x=>
  have m:=zDE hf;have a:=zDF hf;obtain⟨e,p⟩:=x;obtain⟨j,i,g,b⟩:=hK.1 e p a;have d:e=((q*2^k:Nat):Int):=by simpa using m
  rw[d]at g;have:q*2^k=i*2^k:=by exact_mod_cast g
  have:=zEP (zAG k) this;subst this;subst j;simp[b]
 | none=>
  rw[zBM]at hf;by_cases b:can S k q=true
  ·have:=hf _ (hK.2 q b);simp at this
  ·simp[b]
theorem BH.lk (h:BH σ p n S sb ms){k m q:Nat}(hm:ms[k]?=some m){x:Int}(hx:x=((q*2^k:Nat):Int)){K:Option Bool->Prop}
 (hK:K (if can S k q then some true else none)):Lk .i64 .b (some m) x σ K:=by
 obtain⟨B,a,d⟩:=h.maps k m hm;exact⟨B,a,by rw[hx,Wkg d a.nodup];exact hK⟩
theorem WbX {k:Nat}{B:List (Int×Bool)}(hK:Keys S k B)(hn:(B.map (·.1)).Nodup)(hb:Bounded S n):B.length=many n S k:=by
 have j:(B.map (·.1)).Perm (((List.range n).filter (can S k)).map λq=>((q*2^k:Nat):Int)):=by
  rw[zEQ hn]
  ·intro x;simp only[zC,zH,zU];constructor
   ·rintro⟨⟨x1,x2⟩,hm,rfl⟩;obtain⟨_,q,p,d⟩:=hK.1 x1 x2 hm;refine⟨q,⟨?_,d⟩,p.symm⟩;have:=ZR hb (ZM.1 d).1;have m:=zAG k;have r:q<=q*2^k:=zFY _ m;omega
   ·rintro⟨q,⟨_,d⟩,rfl⟩;exact⟨_,hK.2 q d,rfl⟩
  ·have i:((List.range n).filter (can S k)).Pairwise (· ≠ ·):=List.Pairwise.sublist zCT zER;refine List.Pairwise.map _ (λa b (g:a≠b) e=>g ?_) i;have:a*2^k=b*2^k:=by exact_mod_cast e
   exact zEP (zAG k) this
 have:=j.length_eq;simp only[za]at this;rw[this,many,zES]
theorem BH.mlen (h:BH σ p n S sb ms){k m:Nat}(hm:ms[k]?=some m){K:Int->Prop}(hK:K ((many n S k:Nat):Int)):MLen .i64 .b (some m) σ K:=by
 obtain⟨B,a,d⟩:=h.maps k m hm;exact⟨B,a,by rw[WbX d a.nodup h.bnd];exact hK⟩
theorem BH.turn (h:BH σ p n S sb ms){k m:Nat}{T:Nat->Bool}(hm:ms[k]?=some m)(ho:QD σ h' m){B':List (Int×Bool)}(hB':MapL h' m .i64 .b B')(hK':Keys T k B')
 (hoth:∀j q,j≠k->can T j q=can S j q) (hT:Bounded T n):BH h' p n T sb ms where
 hd:=by
  obtain⟨cap,i⟩:=h.hd;refine⟨cap,Ws ho i ?_⟩;have:=h.nd;simp only[zo,zQ,not_or]at this;rintro rfl;exact this.1.2 (zE hm)
 row:=by
  obtain⟨rest,i⟩:=h.row;refine⟨rest,Ws ho i ?_⟩;have:=h.nd;simp only[zo,zQ,not_or]at this;rintro rfl;exact this.2.1 (zE hm)
 maps:=λj A a=>by
  by_cases e:j=k
  ·subst e;rw[hm]at a;cases a;exact⟨B',hB',hK'⟩
  ·obtain⟨B,s,d⟩:=h.maps j A a;refine⟨B,Hh ho s ?_,?_⟩
   ·rintro rfl;have g:=h.nd;simp only[zo]at g;exact e ((List.getElem?_inj (gSi.1 a).1 g.2.2).1 (a.trans hm.symm))
   ·refine⟨λx v u=>?_,λq w=>d.2 q (by rw[←hoth j q e];exact w)⟩;obtain⟨z,q,r,y⟩:=d.1 x v u;exact⟨z,q,r,by rw[hoth j q e];exact y⟩
 nd:=h.nd
 n1:=h.n1
 n2:=h.n2
 lo:=h.lo
 hi:=h.hi
 bnd:=hT
theorem Wmd (hb:Bounded S n)(k q:Nat):Bounded (del S k q) n:=λx a=>hb x (VH.1 a).1
theorem WiK (hb:Bounded S n){k q:Nat}(hf:q*2^k+2^k<=n):Bounded (ins S k q) n:=λx a=>by
 rcases VI.1 a with h|h
 ·exact hb x h
 ·have:=Qc.1 h;omega
theorem Wg8 {a b:Bool}(h:a=true↔b=true):a=b:=by cases a<;>cases b<;>simp_all
theorem BH.mdelR (h:BH σ p n S sb ms){k m q:Nat}(hm:ms[k]?=some m)(hc:can S k q=true){x:Int}(hx:x=((q*2^k:Nat):Int)){K:aP}
 (hK:∀h',Ext (· ∈ ms) σ h'->BH h' p n (del S k q) sb ms->K h'):MDel .i64 .b (some m) x σ K:=by
 obtain⟨B,z,u⟩:=h.maps k m hm;refine⟨B,z,λh' w _ g=>hK h' (Ext.of_only (w m rfl) (zE hm)) ?_⟩;refine h.turn hm (w m rfl) g ⟨λy v i=>?_,λr A=>?_⟩ (λj r D=>Wg8 ?_) (Wmd h.bnd k q)
 ·simp only[mdel,zH,zAW,zBC]at i;obtain⟨C,r,a,s⟩:=u.1 y v i.1;refine⟨C,r,a,(Wef hc).2 ⟨s,λe=>i.2 ?_⟩⟩;rw[a,hx,e.2]
 ·have d:=(Wef hc).1 A;simp only[mdel,zH,zAW,zBC];refine⟨u.2 r d.1,λe=>d.2 ⟨rfl,?_⟩⟩;rw[hx]at e;have:r*2^k=q*2^k:=by exact_mod_cast e
  exact zEP (zAG k) this
 ·rw[Wef hc];exact⟨λh=>h.1,λh=>⟨h,λe=>D e.1⟩⟩
theorem BH.msetR (h:BH σ p n S sb ms){k m q:Nat}(hm:ms[k]?=some m)(hd:∀y,y/2^k=q->S y=false)(hup:¬full (ins S k q) (k+1) (q/2)=true)(hf:q*2^k+2^k<=n)
 {x:Int} (hx:x=((q*2^k:Nat):Int)) {K:aP} (hK:∀h',Ext (· ∈ ms) σ h'->BH h' p n (ins S k q) sb ms->K h'):MSet .i64 .b (some m) x true σ K:=by
 obtain⟨B,C,z⟩:=h.maps k m hm;refine⟨m,B,rfl,C,λh' A w=>hK h' (Ext.of_only A (zE hm)) ?_⟩;have i:∀y∈B,(y.1==x)=false:=by
  rintro⟨y,v⟩ d;obtain⟨_,r,a,g⟩:=z.1 y v d;simp only[zBC];rintro rfl;rw[hx]at a;have:q*2^k=r*2^k:=by exact_mod_cast a
  have:=zEP (zAG k) this;subst this;have u:=KW g (Ky k q);rw[hd _ (Ky k q)]at u;cases u
 have s:mset B x true=B++[(x,true)]:=by
  unfold mset;rw[zA];simp only[zCM,zAX];intro y d;simp[i y d]
 refine h.turn hm A w ?_ (λj r F=>Wg8 ?_) (WiK h.bnd hf)
 ·rw[s];refine⟨λy v d=>?_,λr D=>?_⟩
  ·simp only[zR,zV,Prod.mk.injEq]at d;rcases d with d|⟨rfl,rfl⟩
   ·obtain⟨E,r,a,g⟩:=z.1 y v d;exact⟨E,r,a,(Wcj hd hup).2 (.inl g)⟩
   ·exact⟨rfl,q,hx,(Wcj hd hup).2 (.inr ⟨rfl,rfl⟩)⟩
  ·rcases(Wcj hd hup).1 D with u|⟨_,rfl⟩
   ·exact zBF _ (z.2 r u)
   ·rw[hx];exact zBV _ aA
 ·rw[Wcj hd hup];exact⟨λh=>h.elim id λe=>(F e.1).elim,.inl⟩
end Go.Bu
namespace Go.Vc
open Go
theorem VY {b o:Nat}:∀{vs:List Value} {h:Hp} {cs:List Value} {i:Nat} {K:aP},Blk h b cs->o+i+vs.length<=cs.length →
 (∀h',QD h h' b->Blk h' b (cs.take (o+i)++vs++cs.drop (o+i+vs.length))->K h')->StN ⟨b,o,none⟩ h vs i K
 | [],h,cs,i,K,hb,hl,hK=>hK h ⟨rfl,λ_ _=>rfl⟩ (by simpa using hb)
 | v::vs,h,cs,i,K,hb,hl,hK=>by
  simp only[zP]at hl;refine⟨?_,?_,?_⟩
  ·rw[add_lit,hb.cell,gGe O];rfl
  ·rw[add_lit];exact hb.frz
  ·rw[add_lit];have hb':=hb.set (o:=o+i) v;refine VY hb' aE λh' g a=>hK h' ?_ ?_
   ·exact⟨g.1.trans (Vg _ _ _),λc d=>(g.2 c d).trans (VN d)⟩
   ·have e:(cs.set (o+i) v).take (o+(i+1))++vs++(cs.set (o+i) v).drop (o+(i+1)+vs.length)=cs.take (o+i)++v::vs++cs.drop (o+i+(v::vs).length):=by
     rw[List.drop_set_of_lt O,show o+(i+1)=(o+i)+1 by omega,zh,List.take_set_of_le O,zL O];simp only[zDG,zz,List.singleton_append,zAL,zBW,zP]
     congr 4
     omega
    rw[e]at a;exact a
def Own (Q:Nat->Prop)(h:Hp)(s:Sl)(sz:Nat)(xs:List Value):Prop:=
 xs.length=s.len*sz/\(s.a=none/\s.len=0/\s.cap=0\/∃b cs,Q b/\s.a=some ⟨b,0,none⟩/\Blk h b cs/\s.len<=s.cap/\cs.length=s.cap*sz/\cs.take xs.length=xs)
def Hg (s:Sl)(b:Nat):Prop:=∃o,s.a=some ⟨b,o,none⟩
theorem Own.nil (Q:Nat->Prop)(h:Hp)(sz:Nat):Own Q h ⟨none,0,0⟩ sz []:=⟨by simp,.inl ⟨rfl,rfl,rfl⟩⟩
theorem Own.keep {Q F:Nat->Prop}{h h':Hp}{s:Sl}{sz:Nat}{xs:List Value}(ho:Own Q h s sz xs)(e:Ext F h h')(hF:∀b,Q b->b<h.size->¬F b):Own Q h' s sz xs:=by
 refine⟨ho.1,ho.2.imp id ?_⟩;rintro⟨b,cs,hq,ha,hb,r⟩;exact⟨b,cs,hq,ha,e.blk hb (hF b hq hb.lt),r⟩
theorem Own.keep0 {Q:Nat->Prop}{h h':Hp}{s:Sl}{sz:Nat}{xs:List Value}(ho:Own Q h s sz xs)(e:Ext0 h h'):Own Q h' s sz xs:=ho.keep e λ_ _ _ h=>h
theorem Own.mono {Q Q':Nat->Prop}{h:Hp}{s:Sl}{sz:Nat}{xs:List Value}(ho:Own Q h s sz xs)(hq:∀b,b<h.size->Q b->Q' b):Own Q' h s sz xs:=by
 refine⟨ho.1,ho.2.imp id ?_⟩;rintro⟨b,cs,hQ,ha,hb,r⟩;exact⟨b,cs,hq b hb.lt hQ,ha,hb,r⟩
theorem Own.blk_lt {Q:Nat->Prop}{h:Hp}{s:Sl}{sz:Nat}{xs:List Value}(ho:Own Q h s sz xs){b:Nat}(hb:Hg s b):Q b/\b<h.size:=by
 obtain⟨o,a⟩:=hb;rcases ho.2 with⟨ha,_⟩|⟨b',cs,hq,ha,hk,_⟩
 ·rw[ha]at a;cases a
 ·rw[ha]at a;cases a;exact⟨hq,hk.lt⟩
theorem Own.rd {Q:Nat->Prop}{h:Hp}{s:Sl}{sz:Nat}{xs:List Value}(ho:Own Q h s sz xs):Rd h s.a xs:=by
 rcases ho.2 with⟨ha,hl,_⟩|⟨b,cs,_,ha,hb,_,_,ht⟩
 ·rw[ha];have:=ho.1;rw[hl]at this;simp at this;exact this
 ·rw[ha];intro j v hv;rw[add_lit,hb.cell,zG];rw[←ht,zX]at hv;split at hv
  ·exact hv
  ·cases hv
theorem Own.cell {Q:Nat->Prop}{h:Hp}{s:Sl}{sz:Nat}{xs:List Value}(ho:Own Q h s sz xs){j:Nat}{v:Value}(hv:xs[j]?=some v):∃b,s.a=some ⟨b,0,none⟩/\Vc.cell h ⟨b,j,none⟩=some v:=by
 rcases ho.2 with⟨ha,hl,_⟩|⟨b,cs,_,ha,hb,_,_,ht⟩
 ·have:=ho.1;rw[hl]at this;simp at this;subst this;simp at hv
 ·refine⟨b,ha,?_⟩;rw[hb.cell];rw[←ht,zX]at hv;split at hv
  ·exact hv
  ·cases hv
theorem Own.app {Q:Nat->Prop}{h:Hp}{s x:Sl}{sz bytes e:Nat}{zs xs ys:List Value}{K:Sl->Hp->Prop}(ho:Own Q h s sz xs)(hq:∀b,h.size<=b->Q b)(hz:zs.length=sz)
 (hy:ys.length=x.len*sz) (hr:Rd h x.a ys) (h1:∀v∈ys,one1 v=true) (hb:(s.len+x.len)*bytes<=2^46) (hc:s.len+x.len<=2^62)
 (hx:0<x.len) (hK:∀s' h',s'.len=s.len+x.len->Ext (Hg s) h h'->Own Q h' s' sz (xs++ys)->s'.a≠none->K s' h'):App s sz bytes e zs x h K:=by
 refine⟨xs,ys,ho.1,hy,ho.rd,hr,h1,hb,hc,λg=>?_,λp c j=>?_⟩
 ·rcases ho.2 with⟨ha,hl,hcap⟩|⟨b,cs,hQ,ha,hk,hle,hcl,ht⟩
  ·omega
  ·rw[ha];simp only;rw[add_lit];have r:(s.len+x.len)*sz<=s.cap*sz:=zAJ _ g;rw[zj]at r;have d:=ho.1;refine VY hk O λh' m i=>hK _ h' rfl (Ext.of_only m ⟨0,ha⟩) ⟨?_,.inr ⟨b,_,hQ,rfl,i,g,?_,?_⟩⟩ aA
   ·simp[d,hy,zj]
   ·simp;omega
   ·rw[zK,d];rw[zG,zp,←d];rw[ht,zBX aA,zAZ aA]
 ·refine hK _ _ rfl (Ext.push _ _ _) ⟨by simp[ho.1,hy,zj],.inr ⟨h.size,xs++ys++(List.replicate (c-(s.len+x.len)) zs).flatten,hq _ (zD _),rfl,⟨e,by simp⟩,j,?_,?_⟩⟩ aA
  ·simp only[zK,zEB,zDH,zEC,ho.1,hy,hz,←zj]
   congr 1;omega
  ·rw[zBX aA,zAZ aA]
theorem Wn5 {h:Hp}{v:Value}{e:Nat}:Rd (h.push (.cells #[v] e (0,0))) (some ⟨h.size,0,none⟩) [v]:=by
 intro j u hu;rw[add_lit];cases j with
 | zero=>simp at hu;subst hu;simp[Vc.cell]
 | succ j=>simp at hu
theorem Blk.st1 {h:Hp}{b o:Nat}{cs:List Value}(hb:Blk h b cs){v:Value}(ho:o<cs.length){K:aP}(hK:∀h',QD h h' b->Blk h' b (cs.set o v)->K h'):St1 (Addr.add ⟨b,0,none⟩ o) v h K:=by
 rw[add_lit,zG];refine⟨?_,hb.frz,hK _ ⟨Vg _ _ _,λc a=>VN a⟩ (hb.set v)⟩;rw[hb.cell,gGe ho];rfl
theorem Blk.push (h:Hp)(cs:List Value)(e:Nat):Blk (h.push (.cells cs.toArray e (0,0))) h.size cs:=⟨e,by simp⟩
theorem MapL.push (h:Hp)(k:IntKind)(c:CK):MapL (h.push (.map #[] 0)) h.size k c []:=⟨#[],0,by simp,by simp,by simp,by simp,by simp⟩
theorem Ext.only {F:Nat->Prop}{a b c:Hp}{r:Nat}(e:Ext F a b)(ho:QD b c r)(hr:F r\/a.size<=r):Ext F a c:=
 ⟨by rw[ho.1];exact e.1,λi g d=>by
  rw[ho.2 i ?_];exact e.2 i g d;rintro rfl;rcases hr with h|h
  ·exact d h
  ·omega⟩
theorem Ext.fresh {a b c:Hp}{F:Nat->Prop}(e:Ext0 a b)(k:Ext F b c)(hF:∀i,F i->a.size<=i):Ext0 a c:=
 ⟨zI e.1 k.1,λi d _=>(k.2 i (zEA d e.1) λg=>by have:=hF i g;omega).trans (e.2 i d id)⟩
theorem Own.st {Q:Nat->Prop}{h:Hp}{s:Sl}{sz:Nat}{xs:List Value}(ho:Own Q h s sz xs){j:Nat}(hj:j<xs.length){v:Value}{K:aP}{a:Addr}(ha:∀b,s.a=some ⟨b,0,none⟩->a=⟨b,j,none⟩)
 (hK:∀h',Ext (Hg s) h h'->Own Q h' s sz (xs.set j v)->K h'):St1 a v h K:=by
 rcases ho.2 with⟨h1,hl,_⟩|⟨b,cs,hq,hsa,hb,hle,hcl,ht⟩
 ·have:=ho.1;rw[hl]at this;simp at this;subst this;simp at hj
 ·rw[ha b hsa];have d:j<cs.length:=by
   have:(cs.take xs.length).length=xs.length:=by rw[ht]
   rw[zO]at this;omega
  refine⟨by rw[hb.cell,gGe d];rfl,hb.frz,hK _ (Ext.setc (F:=Hg s) ⟨0,hsa⟩) ⟨by simp[ho.1],.inr ⟨b,_,hq,hsa,hb.set v,hle,by simp[hcl],?_⟩⟩⟩;rw[zBR,List.take_set,ht]
end Go.Vc