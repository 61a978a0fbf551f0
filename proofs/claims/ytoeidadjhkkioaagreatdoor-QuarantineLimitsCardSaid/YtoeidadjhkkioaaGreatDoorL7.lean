/- Texts joined. -/
import Derived.Shelf.SlSortCmp.NoneTotal
import Derived.Ground.SlsfProg
import Derived.Test.YtoeidadjhkkioaaGreatDoorProg
import Derived.Shelf.SlIterI.Nil
import Derived.Ground.GgzProg
import Derived.Test.YtoeidadjhkkioaaGreatDoorL6
set_option linter.unusedVariables false
set_option linter.unusedSimpArgs false
namespace Go.Ar
open Go Go.Vc Go.Proofs
variable {U w:Hp}
def mQ:Nat->Int->Int->List T3
 | 0,_,_=>[]
 | n+1,s,w=>if s<512 then lu s w::mQ n (s+yw s w) w else[]
def allM (w:Int):List T3:=mQ 64 8 w++[lu 512 w]
def qj (l:List T3)(i:Nat):Bool:=i==l.length-1||(match l[i]?,l[i+1]? with
 | some x,some y=>x.2.1 != y.2.1||mU x != mU y
 | _,_=>false)
def l3 (l:List T3)(n:Nat):List T3:=(List.range n).filterMap λi=>if qj l i then l[i]? else none
def re (w:Int):List T3:=l3 (allM w) (allM w).length
def uc (x:T3):Prop:=8<=x.1/\x.1<=512/\1<=x.2.1/\x.2.1<=4
theorem EV (s w:Int)(h1:8<=s)(h2:s<=512):uc (lu s w):=⟨h1,h2,TT s w 4⟩
theorem tO {Q:Rg}{s:Sl}{l:List T3}{e1 e2:Nat}(ho:Go.Vc.Own Q U s 3 (lQ l))(hQ:∀b,U.size<=b->Q b)(hl:l.length<=1000)(x:T3){K:Sl->Hp->Prop}(hK:∀s' σ',Ext Q U σ'->Go.Vc.Own Q σ' s' 3 (lQ (l++[x]))->K s' σ') :
 Nw (.cells #[.int .i64 x.1,.int .i64 x.2.1,.int .i64 x.2.2] e1 (0,0)) U λn20 v3=>App s 3 24 e2 [.int .i64 0,.int .i64 0,.int .i64 0] ⟨some n20,1,1⟩ v3 K:=by
 have d:s.len=l.length:=by have:=ho.1;rw[Dt]at this;omega
 refine nw (cs:=v3 x) λv p e a=>?_;refine(ho.bP e).app (ys:=v3 x) (λb a=>hQ b O) rfl rfl ?_ (by simp[v3,dY]) ?_ ?_ nh λs' m _ g i _=>hK s' m ?_ ?_
 ·intro j u hu;rw[add_lit,zH,a.cell];exact hu
 ·simp only;have:(s.len+1)*24<=1001*24:=mr O O;omega
 ·simp only;omega
 ·exact(aF.to e).trans (g.sub λb a=>((ho.bP e).jo a).1)
 ·rw[RM];exact i
theorem Nv (w:Int)(h:w<2\/16<w){R:Sl->Int->Hp->Prop}(hR:R ⟨none,0,0⟩ 1 U):Xh.c w U R:=by
 refine Xh.o ?_;unfold Xh.v;exact bX.intro (cP (λa=>cF rfl hR) λa=>cF (zI O) hR)
theorem Jx (w:Int)(hw1:2<=w)(hw2:w<=16){R:Sl->Int->Hp->Prop}(hR:∀s' σ',aF U σ'->iy σ' s' (re w)->R s' 0 σ'):Xh.c w U R:=by
 refine Xh.o ?_;unfold Xh.v;refine bX.intro (fZ O (cD (zJ O) ?_));refine Ux (a:=.s) (bb:=bO) (λ(all:Sl) (s:Int) u=>∃(n:Nat) (done:List T3),8<=s/\s<=768/\aF U u/\Go.Vc.Own (λb=>U.size<=b) u all 3 (lQ done)/\done++mQ n s w=mQ 64 8 w/\512<=s+8*(n:Int)/\(∀x∈done,uc x)/\done.length+n=64) (λ_ s _=>1000-s.toNat) ⟨64,[],O,O,Ext.refl _ _,Own.nil _ _ _,rfl,O,by simp,by simp⟩ ?_;rintro(all:Sl) (s:Int) u ⟨n,done,hs1,hs2,eu,ho,hdone,hn,hok,hlen⟩;refine cP (λP=>?_) λY=>?_
 ·obtain⟨n,rfl⟩:∃m,n=m+1:=⟨n-1,O⟩;refine Is s w O O hw1 hw2 λv2 e2=>?_;refine tO (ho.bP e2) (λb F=>by have:=eu.1;have:=e2.1;omega) O (lu s w) λall1 v4 e4 h4=>?_;have e04:aF U v4:=Ext.dX (eu.trans e2) e4 λb F=>.inr F;refine LY s w O O hw1 λd1 d2=>ar O O ⟨⟨n,done++[lu s w],O,O,e04,h4,?_,O,λx C=>?_,by simp;omega⟩,O⟩
  ·rw[←hdone,zk]
   congr 1
   conv=>rhs;rw[mQ,zC P]
   rfl
  ·rcases zM.1 C with h1|h1
   ·exact hok x h1
   ·rw[zN]at h1;subst h1;exact EV s w O O
 ·have M:mQ n s w=[]:=by
   cases n with
   | zero=>rfl
   | succ n=>rw[mQ,zB Y]
  rw[M,kR]at hdone;refine Is 512 w O O hw1 hw2 λv6 e6=>?_;refine tO (ho.bP e6) (λb F=>by have:=eu.1;have:=e6.1;omega) O (lu 512 w) λg v8 e8 L=>?_;have e08:aF U v8:=Ext.dX (eu.trans e6) e8 λb F=>.inr F;rw[hdone]at L;have p:∀x∈allM w,uc x:=λx C=>by
   rcases zM.1 C with h1|h1
   ·rw[←hdone]at h1;exact hok x h1
   ·rw[zN]at h1;subst h1;exact EV 512 w O O
  have hml:(allM w).length<=65:=by unfold allM;rw[←hdone];simp;omega
  have L:Go.Vc.Own (λb=>U.size<=b) v8 g 3 (lQ (allM w)):=L;generalize hall:allM w=l at L p hml;have hmk:re w=l3 l l.length:=by unfold re;rw[hall]
  have hl2:g.len=l.length:=by have:=L.1;rw[Dt]at this;omega
  refine Ux (a:=.s) (bb:=bO) (λ(out:Sl) (z:Int) u=>∃i:Nat,z=(i:Int)/\i<=l.length/\aF v8 u/\Go.Vc.Own (λb=>v8.size<=b) u out 3 (lQ (l3 l i))/\(l3 l i).length<=i) (λ_ z _=>l.length-z.toNat) ⟨0,rfl,O,Ext.refl _ _,Own.nil _ _ _,by simp[l3]⟩ ?_;rintro(out:Sl) (z:Int) u ⟨i,rfl,hi,eu8,hout,hol⟩;refine cP (λP=>?_) λY=>?_
  ·have hi':i<l.length:=by omega
   have C:l[i]?=some l[i]:=cW hi';generalize l[i]=x at C;have D:=p x (zG C);have j:l3 l (i+1)=l3 l i++(if qj l i then[x]else[]):=by
    unfold l3;rw[qO,xN]
    congr 1
    by_cases hk:qj l i=true
    ·simp[hk,C]
    ·simp[hk]
   have hA:∀m,aF u m->iy m g l:=λm d=>Ft (L.bP (eu8.trans d));refine AX (λr u'=>aF u u'/\r=qj l i) (λr u' ⟨A,hr⟩=>?_) λJ3 G=>?_
   ·have Q:=hout.bP A;cases hk:qj l i with
    | true=>
     rw[hk]at hr j;refine cF hr (yP (hA u' A) C ?_);refine tO Q (λb F=>by have:=eu8.1;have:=A.1;omega) O x λout1 v12 e12 h12=>?_;refine cT (m:=i+1) O O ⟨⟨i+1,rfl,O,Ext.dX (eu8.trans A) e12 λb F=>.inr F,?_,?_⟩,O⟩
     ·rw[j];exact h12
     ·rw[j];simp;omega
    | false=>
     rw[hk]at hr j;refine cD hr (cT (m:=i+1) O O ⟨⟨i+1,rfl,O,eu8.trans A,?_,?_⟩,O⟩)
     ·rw[j];simpa using Q
     ·rw[j];simp;omega
   ·refine⟨λm=>aF u m,Ext.refl _ _,ar O O ?_⟩;refine cN (λJ=>G _ _ ⟨Ext.refl _ _,?_⟩) λhnl=>?_
    ·have:i=l.length-1:=by simp only[zU]at J;omega
     unfold qj;rw[this];simp
    ·have hi2:i+1<l.length:=by simp only[mP]at hnl;omega
     have hy:l[i+1]?=some l[i+1]:=cW hi2;generalize l[i+1]=y at hy;have E:=p y (zG hy);have W:qj l i=(x.2.1 != y.2.1||mU x != mU y):=by
      unfold qj;rw[C,hy];have:(i==l.length-1)=false:=by simp only[mP];omega
      rw[this];rfl
     have S:=λ(m:Hp) (d:aF u m)=>(hA m d).2 i x.1 x.2.1 x.2.2 C;have hcy:=λ(m:Hp) (d:aF u m)=>(hA m d).2 (i+1) y.1 y.2.1 y.2.2 hy;obtain⟨b,o,Z,_,_⟩:=S u (Ext.refl _ _);have rx:∀m,aF u m->cell m ⟨b,o+i*3,none⟩=some (.int .i64 x.1)/\cell m ⟨b,o+i*3+1,none⟩=some (.int .i64 x.2.1)/\cell m ⟨b,o+i*3+2,none⟩=some (.int .i64 x.2.2):=λm d=>by
      obtain⟨b',o',B,_,h⟩:=S m d;rw[Z]at B;cases B;exact h
     have ry:∀m,aF u m->cell m ⟨b,o+(i+1)*3,none⟩=some (.int .i64 y.1)/\cell m ⟨b,o+(i+1)*3+1,none⟩=some (.int .i64 y.2.1)/\cell m ⟨b,o+(i+1)*3+2,none⟩=some (.int .i64 y.2.2):=λm d=>by
      obtain⟨b',o',B,_,h⟩:=hcy m d;rw[Z]at B;cases B;exact h
     have X:∀{K:Addr->Prop},K ⟨b,o+i*3,none⟩->Ix g.a g.len (i:Int) 3 K:=λhK=>by
      rw[Z];exact ix O O (by rw[add_lit,dF];exact hK)
     have V:∀{K:Addr->Prop},K ⟨b,o+(i+1)*3,none⟩->Ix g.a g.len ((i+1:Nat):Int) 3 K:=λhK=>by
      rw[Z];exact ix O O (by rw[add_lit,dF];exact hK)
     refine X ⟨x.2.1,λm d=>by rw[add_lit];exact(rx m d).2.1,cT (m:=i+1) O O (V ⟨y.2.1,λm d=>by rw[add_lit];exact(ry m d).2.1,?_⟩)⟩;refine cN (λhp=>G _ _ ⟨Ext.refl _ _,by rw[W,hp];rfl⟩) λhp=>?_;refine X ⟨x.1,λm d=>by rw[add_lit];exact(rx m d).1,⟨x.2.1,λm d=>by rw[add_lit];exact(rx m d).2.1,⟨x.2.2,λm d=>by rw[add_lit];exact(rx m d).2.2,?_⟩⟩⟩;refine cT (m:=i+1) O O (V ⟨y.1,λm d=>by rw[add_lit];exact(ry m d).1,⟨y.2.1,λm d=>by rw[add_lit];exact(ry m d).2.1,⟨y.2.2,λm d=>by rw[add_lit];exact(ry m d).2.2,?_⟩⟩⟩);refine Jp x D.1 D.2.1 D.2.2.1 D.2.2.2 λv13 H=>⟨H,Jp y E.1 E.2.1 E.2.2.1 E.2.2.2 λv14 N=>⟨H.trans N,G _ _ ⟨H.trans N,by rw[W,hp];rfl⟩⟩⟩
  ·have hil:i=l.length:=by omega
   subst hil;refine hR out u (e08.trans eu8) ?_;rw[hmk];exact Ft hout
theorem Gy:∀w:Nat,2<=w->w<=16->QY (re (w:Int))=true:=by
 have h:((List.range 17).all λw=>decide (w<2)||QY (re (w:Int)))=true:=by decide +kernel
 intro w h1 h2;have:=kz.1 h w (zg.2 O);simp only[nW,zV]at this;exact this.resolve_left O
end Go.Ar
namespace Go.Proofs
open Go.Shelf
def Tryz.eX:Go.Shelf.Ren:=⟨fun|6=>297|15=>160|14=>323|28=>224|29=>225|20=>344|21=>345|22=>346|23=>347|24=>348|25=>349|26=>350|27=>351|46=>357|47=>276|48=>277|49=>358|50=>359|57=>361|n=>n,fun|22=>141|24=>147|25=>369|3=>3|39=>230|0=>0|53=>311|55=>313|4=>4|46=>304|45=>303|50=>171|5=>5|9=>9|66=>353|70=>357|76=>383|77=>384|n=>n,fun|n=>n⟩
theorem Tryz.qk:Go.Proofs.SlLaysF0.n6 Tryz.prog Tryz.eX:={
 mixed:=by kernel_rfl
 f6:=⟨Tryz.f297.name,by decide,Tryz.func297.trans (congrArg some (by kernel_rfl))⟩
 f14:=⟨Tryz.f323.name,by decide,Tryz.func323.trans (congrArg some (by kernel_rfl))⟩
 f15:=Tryz.func160.trans (congrArg some (by kernel_rfl))
 f20:=⟨Tryz.f344.name,by decide,Tryz.func344.trans (congrArg some (by kernel_rfl))⟩
 f21:=⟨Tryz.f345.name,by decide,Tryz.func345.trans (congrArg some (by kernel_rfl))⟩
 f22:=⟨Tryz.f346.name,by decide,Tryz.func346.trans (congrArg some (by kernel_rfl))⟩
 f23:=⟨Tryz.f347.name,by decide,Tryz.func347.trans (congrArg some (by kernel_rfl))⟩
 f24:=⟨Tryz.f348.name,by decide,Tryz.func348.trans (congrArg some (by kernel_rfl))⟩
 f25:=⟨Tryz.f349.name,by decide,Tryz.func349.trans (congrArg some (by kernel_rfl))⟩
 f26:=⟨Tryz.f350.name,by decide,Tryz.func350.trans (congrArg some (by kernel_rfl))⟩
 f27:=⟨Tryz.f351.name,by decide,Tryz.func351.trans (congrArg some (by kernel_rfl))⟩
 f28:=Tryz.func224.trans (congrArg some (by kernel_rfl))
 f29:=Tryz.func225.trans (congrArg some (by kernel_rfl))
 f46:=⟨Tryz.f357.name,by decide,Tryz.func357.trans (congrArg some (by kernel_rfl))⟩
 f47:=Tryz.func276.trans (congrArg some (by kernel_rfl))
 f48:=Tryz.func277.trans (congrArg some (by kernel_rfl))
 f49:=⟨Tryz.f358.name,by decide,Tryz.func358.trans (congrArg some (by kernel_rfl))⟩
 f50:=⟨Tryz.f359.name,by decide,Tryz.func359.trans (congrArg some (by kernel_rfl))⟩
 f57:=⟨Tryz.f361.name,by decide,Tryz.func361.trans (congrArg some (by kernel_rfl))⟩
 t0:=Tryz.underlying0
 a0:=Tryz.isAgg0
 z0:=Tryz.sizeOf0
 v0:=Tryz.zeroValue0
 t3:=Tryz.underlying3
 a3:=Tryz.isAgg3
 z3:=Tryz.sizeOf3
 v3:=Tryz.zeroValue3
 t4:=Tryz.underlying4
 a4:=Tryz.isAgg4
 z4:=Tryz.sizeOf4
 v4:=Tryz.zeroValue4
 t5:=Tryz.underlying5
 a5:=Tryz.isAgg5
 z5:=Tryz.sizeOf5
 v5:=Tryz.zeroValue5
 t9:=Tryz.underlying9
 a9:=Tryz.isAgg9
 z9:=Tryz.sizeOf9
 v9:=Tryz.zeroValue9
 t22:=Tryz.underlying141
 a22:=Tryz.isAgg141
 z22:=Tryz.sizeOf141
 v22:=Tryz.zeroValue141
 t25:=Tryz.underlying369
 a25:=Tryz.isAgg369
 z25:=Tryz.sizeOf369
 v25:=Tryz.zeroValue369
 t39:=Tryz.underlying230
 a39:=Tryz.isAgg230
 z39:=Tryz.sizeOf230
 v39:=Tryz.zeroValue230
 t45:=Tryz.underlying303
 a45:=Tryz.isAgg303
 z45:=Tryz.sizeOf303
 v45:=Tryz.zeroValue303
 t46:=Tryz.underlying304
 a46:=Tryz.isAgg304
 z46:=Tryz.sizeOf304
 v46:=Tryz.zeroValue304
 t50:=Tryz.underlying171
 a50:=Tryz.isAgg171
 z50:=Tryz.sizeOf171
 v50:=Tryz.zeroValue171
 t53:=Tryz.underlying311
 a53:=Tryz.isAgg311
 z53:=Tryz.sizeOf311
 v53:=Tryz.zeroValue311
 t55:=Tryz.underlying313
 a55:=Tryz.isAgg313
 z55:=Tryz.sizeOf313
 v55:=Tryz.zeroValue313
 t66:=Tryz.underlying353
 a66:=Tryz.isAgg353
 z66:=Tryz.sizeOf353
 v66:=Tryz.zeroValue353
 t70:=Tryz.underlying357
 a70:=Tryz.isAgg357
 z70:=Tryz.sizeOf357
 v70:=Tryz.zeroValue357
 t76:=Tryz.underlying383
 a76:=Tryz.isAgg383
 z76:=Tryz.sizeOf383
 v76:=Tryz.zeroValue383
 t77:=Tryz.underlying384
 a77:=Tryz.isAgg384
 z77:=Tryz.sizeOf384
 v77:=Tryz.zeroValue384}
end Go.Proofs
namespace Go.Ar
open Go Go.Vc Go.Proofs Go.RowKit Go.Sort Go.Shelf Go.Lib
abbrev uG:=Fin 64×Sl
instance:Inhabited uG:=⟨(0,⟨none,0,0⟩)⟩
def kK (x:uG):List Value:=[.int .i64 (x.1.val:Int),.slice x.2.a x.2.len x.2.cap]
def pw (x y:uG):Int:=(x.1.val:Int)-(y.1.val:Int)
theorem Dk (x y:uG)(W:World):Calls Tryz.prog 298 #[.agg #[.int .i64 (x.1.val:Int),.slice x.2.a x.2.len x.2.cap],.agg #[.int .i64 (y.1.val:Int),.slice y.2.a y.2.len y.2.cap]] W λe w'=>e=.returned (.int .i64 (pw x y))/\∃q os',w'=grow (W.drewN q) os':=by
 have g:IntKind.i64.wrap ((x.1.val:Int)-(y.1.val:Int))=pw x y:=by
  have b:=x.1.isLt;have d:=y.1.isLt;unfold pw;exact Up O O
 go_enter Tryz.func298,Tryz.ntmps298
 go_wp2
 go_ret
 exact⟨rfl,0,_,by rw[alloc_eq_grow,alloc_eq_grow,grow_grow];rfl⟩
theorem Dd:SWO (ltOf pw) where
 irrefl x:=by simp[ltOf,pw]
 trans x y z a h2:=by
  have a:=tE a;have h2:=tE h2;unfold pw at a h2;exact zI (by unfold pw;omega)
 ntrans x y z a h2:=by
  have a:=yX a;have h2:=yX h2;unfold pw at a h2;exact zJ (by unfold pw;omega)
def uY (x:uG):Nat×Sl:=(x.1.val,x.2)
theorem I6 (l:List uG)(j:Nat)(hj:j<l.length*2):(fM (l.map uY))[j]?=some (flatK kK 2 l.toArray)[j]! := by
 rw[get_flatK _ _ _ _ (by simpa using hj)];have hi:j/2<l.length:=by omega
 have e1:l.toArray[j/2]! = l[j/2]:=by rw[getElem!_pos _ _ (by simpa using hi)];simp
 have a:(l.map uY)[j/2]?=some (uY l[j/2]):=by simp[hi]
 have:=PT a (d:=j%2) O;rw[show 2*(j/2)+j%2=j by omega]at this;rw[this,e1];have hd:j%2=0\/j%2=1:=by omega
 rcases hd with h|h<;>rw[h]<;>rfl
theorem FD:om:=by
 intro U F s xs hrow hk hlen R hR;rintro w rfl;have Y:s.len=xs.length:=by have:=hrow.1;rw[Vq]at this;omega
 rcases hrow.2 with⟨h0,hc0⟩|⟨b,cs,hF,ha,hb,hle,hcl,ht⟩
 ·have N:xs=[]:=Ct.1 O;have:=AnyF.slices_SortFunc_none Tryz.qk s.a s.cap (.func (.func 298) #[] #[]) w;show Calls _ _ #[.slice s.a s.len s.cap,.func (.func 298) #[] #[]] w _;rw[h0];refine this.mono ?_;rintro e X ⟨rfl,rfl⟩;subst N;exact⟨.refl _,[],rfl,hR [] _ (.refl _) List.Pairwise.nil (Ext.refl _ _) hrow⟩
 ·have H:∀x∈xs,x.1<64:=hk
  let toK:Nat×Sl->uG:=λx=>(Fin.ofNat 64 x.1,x.2)
  have u:(xs.map toK).map uY=xs:=by
   rw[lK]
   conv=>rhs;rw[←wo xs]
   apply kB;intro x hx;simp only[Function.comp,toK,uY,Fin.ofNat,id];rw[wh (H x hx)]
  have L:(xs.map toK).length=xs.length:=by simp
  generalize xs.map toK=l at u L;have z:=hb.lt;have hH:HoldsK kK 2 w b 0 l.toArray:=by
   intro j hj;simp only[size_flatK,AO]at hj;have W:Vc.cell w.heap ⟨b,0+j,none⟩=some (flatK kK 2 l.toArray)[j]! := by
    rw[hb.cell,zH,←I6 l j hj,u];rw[←ht,zl,zC (by rw[Vq];omega)]
   exact⟨W,hb.oJ⟩
  have Z:∀args w,(callFunc 298 args).run Tryz.prog w=.ok (.enter 298 args) w:=enters_of Tryz.func298 (by kernel_rfl) rfl;have B:∀w,(isAgg (Tryz.eX.t 24)).run Tryz.prog w=.ok true w:=λw=>by
   have h:=Vv (P:=Tryz.prog) (t:=Tryz.eX.t 24) (d:=(Tryz.prog.underlying (Tryz.eX.t 24)).getD .bool) (by kernel_rfl) w
   rwa [show U2 ((Tryz.prog.underlying (Tryz.eX.t 24)).getD .bool)=true by kernel_rfl]at h
  have G:∀w,(Go.sizeOf (Tryz.eX.t 24)).run Tryz.prog w=.ok 2 w:=λw=>by
   have h:=Km (P:=Tryz.prog) (t:=Tryz.eX.t 24) (by kernel_rfl) w
   rwa [show Tryz.prog.cellsOf (Tryz.eX.t 24)=2 by kernel_rfl]at h
  have C:=AnyQ.slices_SortFunc Tryz.qk 2 B G kK (λ_=>rfl) (λx v Q=>by simp only[kK,zW,yV,or_false]at Q;rcases Q with rfl|rfl<;>rfl) pw Dd 298 #[] b 0 s.cap l.toArray w Z (λ_ _ _ _ x y=>Dk x y _) hH z (by simp only[AO];omega)
  show Calls _ _ #[.slice s.a s.len s.cap,.func (.func 298) #[] #[]] w _;rw[ha,show s.len=l.toArray.size by simp only[AO];omega];refine C.mono ?_;rintro e X ⟨rfl,d',n,os,S,M,rfl⟩;have g:d'.size=l.length:=by simpa using S.1
  have r:d'.toList.Perm l:=by
   have J:=S.2.2;rw[show l.toArray.size=d'.size by simp[g]]at J;have e1:(d'.extract 0 d'.size)=d':=by simp
   have e2:(l.toArray.extract 0 d'.size)=l.toArray:=by rw[g];simp
   rw[e1,e2]at J;simpa using J
  obtain⟨ty,K⟩:=hb;have m:(sortWorldK kK 2 w b 0 n d' os).heap=(w.heap.modify b (onCells (putCells id 0 (flatK kK 2 d'))))++os:=rfl;have p:(w.heap.modify b (onCells (putCells id 0 (flatK kK 2 d')))).size=w.heap.size:=by simp
  refine⟨⟨rfl,rfl,rfl,by rw[m,Array.size_append,p];omega⟩,[],rfl,?_⟩;rw[m];have A:Ext F w.heap ((w.heap.modify b (onCells (putCells id 0 (flatK kK 2 d'))))++os):=by
   refine⟨by rw[Array.size_append,p];omega,λq hq V=>?_⟩;rw[yd (by rw[p];exact hq),AV,zB λ(e:b=q)=>V (by rw[←e];exact hF)]
  refine hR (d'.toList.map uY) _ ?_ ?_ A ⟨?_,.inr ⟨b,(putCells id 0 (flatK kK 2 d') cs.toArray).toList,hF,ha,⟨ty,?_⟩,hle,?_,?_⟩⟩
  ·rw[←u];exact r.map _
  ·rw[sR];rw[mw];intro i j hi hj hij;have D:=M i j O hij (by simp only[wL]at hj;simp only[AO];omega);rw[getElem!_pos d' i (by simpa using hi),getElem!_pos d' j (by simpa using hj)]at D;have D:=yX D;unfold pw at D;simp only[uY,Array.getElem_toList];omega
  ·rw[Vq,zj,wL,g];omega
  ·rw[yd (by rw[p];exact z),AV,zC rfl,K];simp[onCells]
  ·simp[putCells,hcl]
  ·rw[Vq,zj,wL,g];apply zt;intro j;rw[zl];by_cases hj:j<l.length*2
   ·rw[zC hj,I6 d'.toList j (by simpa[g]using hj)];have E:j<cs.length:=by
     have:l.length*2<=s.cap*2:=mq _ O;omega
    simp only[putCells,Ad,Array.getElem?_mapIdx,List.getElem?_toArray,cW E,ze];rw[zC ⟨O,by rw[size_flatK,g];omega⟩];simp
   ·rw[zB hj,zX (by rw[Vq,zj,wL,g];omega)]
end Go.Ar
namespace Go.Proofs
open Go.Vc
set_option maxRecDepth 100000
def Yc.h:Hn:=.q .o1 (.q .o5 .l)
def Yc.v (a:Sl)(b:Int)(c:Hp)(d:aO):Prop:=d (decide (((a.len:Nat):Int)>b)) c
theorem Yc.o {a b c d}(e:Yc.v a b c d):Yc.c a b c d:=Wa Tryz.func14 (x:=Yc.h) (R0 e)
def Ys.h:Hn:=.q .o2 (.q (.q (.cU (.seq [.op,.op,.op,.op,.cX false 3 (RI.ops 3)])) (.c (.q .o3 .l) .l)) (.q (.oq 12) .l))
def Ys.v (a:Sl)(b c d e f g h:Int)(i:ByteArray)(j:Hp)(k:aN):Prop:=aV #[.I b,.I c,.I d,.I e,.I f,.I g,.I h,.string i] 40 j λl m=>aQ l 4 m λn=>bX (λo p=>If o (aQ l 5 p λq=>k q p) (aQ l 4 p λr=>Nz ((a.len:Nat):Int) <| Ix a.a a.len (r.tmod ((a.len:Nat):Int)) 1 λs=>bN s p λt=>aQ l 5 p λu=>bM (t+u) λv=>k v p)) λw=>If (n<0) (w true m) (w (((a.len:Nat):Int)==0) m)
theorem Ys.o {a b c d e f g h i j k}(l:Ys.v a b c d e f g h i j k):Ys.c a b c d e f g h i j k:=Wa Tryz.func25 (x:=Ys.h) (R0 l)
def XP.h:Hn:=.q .o1 (.q .o4 .l)
def XP.v (a:Hp)(b:Option Addr->Hp->Prop):Prop:=WN.c 8 64 1 1 1024 2 a λc d=>b c d
theorem XP.o {a b}(c:XP.v a b):XP.c a b:=Wa Tryz.func39 (x:=XP.h) (R0 c)
def Xa.h:Hn:=.q .o2 (.q .o5 .l)
def Xa.v (a b c d e f:Int)(g:Hp)(h:aO):Prop:=aV #[.I a,.I b,.I c,.I d,.I e,.I f] 25 g λi j=>bN ((i.add 1).add 0) j λk=>h (decide (k>128)) j
theorem Xa.o {a b c d e f g h}(i:Xa.v a b c d e f g h):Xa.c a b c d e f g h:=Wa Tryz.func52 (x:=Xa.h) (R0 i)
def WN.h:Hn:=.q .o2 (.q .o8 (.q .o9 (.q (.q .o2 .aK) .aL)))
def WN.v (a b c d e f:Int)(g:Hp)(h:Option Addr->Hp->Prop):Prop:=aV #[.I a,.I b,.I c,.I d,.I e,.I f] 25 g λi j=>aQ i 0 j λk=>Xh.c k j λl m n=>bN ((i.add 1).add 0) n λo=>bN ((i.add 1).add 1) n λp=>bN ((i.add 1).add 2) n λq=>bN ((i.add 1).add 3) n λr=>bN ((i.add 1).add 4) n λs=>Vk.c l o p q r s n λt u v=>If (u != 0) (h none v) (h t v)
theorem WN.o {a b c d e f g h}(i:WN.v a b c d e f g h):WN.c a b c d e f g h:=Wa Tryz.func53 (x:=WN.h) (R0 i)
end Go.Proofs
namespace Go.Ar
open Go Go.Vc Go.Proofs
variable {U w w':Hp}{F P Q:Rg}{L:dE}{H H':Hw}{held:List Pc}{s0:Sp}{t n:Nat}{g:Th}
structure eW where
 kd:Int
 th:Int
 a:Int
 b:Int
 of:Int
 pl:Int
 va:Int
 s:ByteArray
def ur (d:eW):List Value:=[.int .i64 d.kd,.int .i64 d.th,.int .i64 d.a,.int .i64 d.b,.int .i64 d.of,.int .i64 d.pl,.int .i64 d.va,.string d.s]
def jv (x:Int):Prop:=-9223372036854775808<=x/\x<=9223372036854775807
structure kZ (d:eW):Prop where
 a:jv d.a
 b:jv d.b
 pl:jv d.pl
 va:jv d.va
structure jZ (U:Hp) (sl:Sl) (ds:List eW):Prop where
 len:sl.len=ds.length
 at_:∀(i:Nat) (d:eW),ds[i]?=some d->∃b o,sl.a=some ⟨b,o,none⟩/\b<U.size/\∀(j:Nat) v,(ur d)[j]?=some v->cell U ⟨b,o+i*8+j,none⟩=some v
 i:∀d∈ds,kZ d
 yM:ds.length<=9223372036854775807
theorem jZ.bP {sl:Sl}{ds:List eW}(h:jZ U sl ds)(e:aF U w):jZ w sl ds:=⟨h.len,λi d m=>by
 obtain⟨b,o,g,p,r⟩:=h.at_ i d m;exact⟨b,o,g,by have:=e.1;omega,λj v a=>by rw[KV e p id];exact r j v a⟩,h.i,h.yM⟩
theorem jZ.rd {sl:Sl}{ds:List eW}(h:jZ U sl ds)(e:aF U w){i:Nat}{d:eW}(hx:ds[i]?=some d){K:Addr->Prop}(hK:∀b o,(∀w',aF U w'->∀(j:Nat) v,(ur d)[j]?=some v->cell w' ⟨b,o+j,none⟩=some v)->K ⟨b,o,none⟩):Ix sl.a sl.len (i:Int) 8 K:=by
 obtain⟨b,o,p,s,u⟩:=h.at_ i d hx;have x:=(cY.1 hx).1;have g:=h.len;rw[p];refine ix O O ?_;rw[add_lit,dF];exact hK b _ λw' r j v m=>by rw[KV r s id];exact u j v m
theorem yf {b o i:Nat}{h:Hp}{x:ByteArray}{K:ByteArray->Prop}(hc:cell h ⟨b,o+i,none⟩=some (.string x))(hK:K x):xD (Addr.add ⟨b,o,none⟩ i) h K:=⟨x,by rw[add_lit];exact hc,hK⟩
theorem _root_.Go.Vc.bY.rT {b o i:Nat}{cs:List Value}(hb:bY U b cs){x:ByteArray}{K:ByteArray->Prop}(hc:cs[o+i]?=some (.string x))(hK:K x):xD (Addr.add ⟨b,o,none⟩ i) U K:=⟨x,by rw[add_lit,hb.cell];exact hc,hK⟩
def tu (ad:List Int)(d:eW):Int:=if d.of<0\/ad=[]then d.pl else IntKind.i64.wrap (ad.getD (d.of.toNat%ad.length) 0+d.pl)
theorem LP {ad:List Int}{d:eW}(h:kZ d):jv (tu ad d):=by
 unfold tu;split
 ·exact h.pl
 ·exact LO _
theorem Fl {addrs:Sl}{ad:List Int}(hs:cV addrs 1 (Wx ad) U F)(d:eW){R:aN}(hR:∀σ',aF U σ'->R (tu ad d) σ'):Ys.c addrs d.kd d.th d.a d.b d.of d.pl d.va d.s U R:=by
 refine Ys.o ?_;unfold Ys.v;have x:addrs.len=ad.length:=by have:=hs.1;simp[Wx]at this;omega
 refine nw (cs:=ur d) λv D e j=>j.rI rfl (Kr (λr w=>w=v/\r=decide (d.of<0\/ad=[])) (λr w ⟨C,z⟩=>?_) λJ A=>cP (λp=>A _ _ ⟨rfl,by rw[zI (.inl p)]⟩) λp=>A _ _ ⟨rfl,?_⟩)
 ·subst C;have g:=hR w e;by_cases hc:d.of<0\/ad=[]
  ·refine cF (by rw[z];exact zI hc) (j.rI rfl ?_);unfold tu at g;rw[zC hc]at g;exact g
  ·have i:0<ad.length:=pT.2 λh=>hc (.inr h);refine cD (by rw[z];exact zJ hc) (j.rI rfl (nz O ?_));have u:0<=d.of:=by omega
   have B:d.of.tmod (addrs.len:Int)=((d.of.toNat%ad.length:Nat):Int):=by
    rw[Kh u,x,Int.natCast_emod,Int.toNat_of_nonneg u]
   rw[B];have m:d.of.toNat%ad.length<ad.length:=wk _ i;have y:ad[d.of.toNat%ad.length]?=some ad[d.of.toNat%ad.length]:=cW m;refine(cV.loc _ _ _ |>.bP (aH.cut hs) e).lL y (j.rI rfl (vH ?_));unfold tu at g;rw[zB hc,zQ,y]at g;exact g
 ·rw[x];rw[j0];simp only[zU,zV];constructor
  ·intro h;exact .inr (Ct.1 O)
  ·rintro(h|h)
   ·exact(p h).elim
   ·rw[h];rfl
theorem OI {l:Sl}{most:Int}{R:aO}(hR:R (decide ((l.len:Int)>most)) U):Yc.c l most U R:=by
 refine Yc.o ?_;unfold Yc.v;exact hR
theorem Ta {xs:List (Int×Int×Int)}(h:QY xs=true):(xs.map QH).map mT=xs:=by
 rw[lK]
 conv=>rhs;rw[←wo xs]
 apply kB;intro t ht;obtain⟨i,hi⟩:=zP ht;have:=((QU xs).1 h).2.2.1 i t hi;obtain⟨c,_,b,g,a,d⟩:=yG this;simp only[Function.comp,id];rw[show QH t=c from b];unfold mT;rw[←g,←a,←d]
theorem S2 {xs:List (Int×Int×Int)}(h:QY xs=true):(xs.map QH).length<=40/\∀c∈xs.map QH,c.ok:=by
 refine⟨by have:=((QU xs).1 h).2.1;simpa using this,λc g=>?_⟩;obtain⟨t,b,rfl⟩:=zE.1 g;obtain⟨i,hi⟩:=zP b;have:=((QU xs).1 h).2.2.1 i t hi;obtain⟨c,a,d,_⟩:=yG this;rw[show QH t=c from d];exact a
structure uH (H:Hw) (aG:Int):Prop where
 hi:HI H [] (V8 H.cf.aG)
 cf:iU H
 pg:(H.cf.aG:Int)=aG
 live:H.live=[]
 ph:∀g∈H.bR,g.ph=none
 th:1<=H.cf.threads
theorem LD {xs:List (Int×Int×Int)}{p a t b r:Int}(h:QY xs=true)(hc:sL p a t b r=true):uH (Uu (xs.map QH) ⟨p.toNat,a.toNat,t.toNat,b.toNat,r.toNat⟩) p:=by
 obtain⟨⟨q1,q2,q3⟩,⟨q4,s⟩,⟨m,u⟩,_⟩:=(La p a t b r).1 hc;obtain⟨i,d⟩:=S2 h;refine⟨Nt (cf:=⟨p.toNat,a.toNat,t.toNat,b.toNat,r.toNat⟩) aC aC aC aC i d,⟨by simp only[Uu];omega,by simp[Uu],?_⟩,by simp only[Uu];omega,rfl,λg j=>by rw[CI j],by simp only[Uu];omega⟩;show QY ((xs.map QH).map mT)=true;rw[Ta h];exact h
theorem Tb (g:Gl U)(gd:Gd U)(b b1 b2 b3 b4 b5:Int){R:Option Addr->Hp->Prop}(h0:∀σ',aF U σ'->R none σ')
 (h1:∀σ' L N H,aF U σ'->U.size<=N->N<=σ'.size->HH σ' (λb=>N<=b) L H->uH H b1->R (some ⟨L.p,0,none⟩) σ'):WN.c b b1 b2 b3 b4 b5 U R:=by
 refine WN.o ?_;unfold WN.v;refine nw (cs:=[.int .i64 b,.int .i64 b1,.int .i64 b2,.int .i64 b3,.int .i64 b4,.int .i64 b5]) λv E e j=>j.rI rfl ?_;by_cases hw:2<=b/\b<=16
 ·refine Jx b hw.1 hw.2 λs D e1 w=>?_;have a:=e1.bV j id;have d:=e.trans e1;have m:QY (re b)=true:=by
   have:=Gy b.toNat O O;rw[show((b.toNat:Nat):Int)=b by omega]at this;exact this
  refine a.fE rfl (a.fE rfl (a.fE rfl (a.fE rfl (a.fE rfl ?_))));refine Ek w (g.bP d) (gd.bP d) b1 b2 b3 b4 b5 (λr=>by rw[m]at r;cases r) (λ_ A u e2=>?_) λ_ A u L e2 C=>?_
  ·exact cF rfl (h0 u (d.trans e2))
  ·exact cD rfl (h1 u L D.size _ (d.trans e2) d.1 e2.1 C (LD m A))
 ·refine Nv b O (j.fE rfl (j.fE rfl (j.fE rfl (j.fE rfl (j.fE rfl ?_)))));have w:iy v ⟨none,0,0⟩ []:=⟨rfl,λi x y z B=>by simp at B⟩;refine Ek w (g.bP e) (gd.bP e) b1 b2 b3 b4 b5 (λ_ u e2=>cF rfl (h0 u (e.trans e2))) (λm=>?_) λm=>?_
  ·exact absurd m aB
  ·exact absurd m aB
def Safe (H:Hw)(d:eW)(x:Int)(e:Int×Bk):Prop:=(∀j,fF H j≠some (.find e.1))/\¬((d.kd=3\/d.kd=1\/d.kd=6)/\e.1<=x/\x<e.1+e.2.2.1)
structure nT (H:Hw) (d:eW) (x:Int) (H':Hw):Prop where
 hi:∃held s0,HI H' held s0
 kp:Q0 H' H
 fx:∀e∈H.live,Safe H d x e->e∈H'.live/\(∀w:Nat,e.1<=((8*w:Nat):Int)->((8*w:Nat):Int)<e.1+e.2.2.1->H'.sp.wd w=H.sp.wd w)/\∀j,fF H' j≠some (.find e.1)
theorem nT.same (h:HI H held s0)(d:eW)(x:Int):nT H d x H:=⟨⟨_,_,h⟩,Q0.refl _,λe a b=>⟨a,λ_ _ _=>rfl,b.1⟩⟩
theorem nT.op (h:HI H held s0){d:eW}{x:Int}(o:fT H H')(hl:∀e∈H.live,Safe H d x e->e∈H'.live):nT H d x H':=
 ⟨o.hi,o.kp,λe a b=>⟨hl e a b,h.kl o.ks e a,λj=>by rw[o.ph];exact b.1 j⟩⟩
theorem nT.ar {d:eW}{x:Int}(o:mN H H'):nT H d x H':=
 ⟨o.hi,o.kp,λe a b=>⟨by rw[o.live];exact a,o.kl e a,λj=>by unfold fF;rw[o.bR];exact b.1 j⟩⟩
theorem HI.pK (h:HI H held s0){e:Int×Bk}(he:e∈H.live):8<=e.2.2.1/\0<=e.1/\e.1%8=0/\e.2.2.1%8=0/\e.1+e.2.2.1<=270000:=by
 obtain⟨_,p,g,B,E,z,C,_⟩:=h.lv e he;have J:=h.Ac.size_pos g;have F:=h.Ac.jU g;obtain⟨A,u,hd⟩:=h.Ac.hf p g;have G:p.addr%8=0:=by
  rcases hd with⟨_,_,r,hr,c2,c3⟩|⟨j,c,c1,c2,c3,c4,_⟩
  ·omega
  ·obtain⟨a,y,b,w⟩:=c4;have:a=c:=Option.some.inj (b.1.symm.trans c2);subst this;have m:=(h.Ac.ga _ A u).cG j a y b;obtain⟨l,s,i,D,hi,e,_⟩:=(Uf m).1 w;have d:=m.ok;unfold cA.ok at d;unfold at_ at e;have x:a.size=8*(a.size/8):=by omega
   have:i*a.size=8*(i*(a.size/8)):=by rw[Nat.mul_left_comm,←x]
   omega
 omega
theorem nT.write (h:HI H held s0){d:eW}{x:Int}(hd:d.kd=3)(v:Int):nT H d x {H with sp:=ZI H.sp x v}:=by
 refine⟨⟨_,_,h.write x v⟩,⟨rfl,rfl,rfl,rfl⟩,λe b a=>⟨b,λw g i=>?_,a.1⟩⟩;have m:=h.pK b;rw[(Dr H.sp x v).2.2,zB];rintro⟨h0,hw⟩;have j:=JY h0;exact a.2 ⟨.inl hd,O,O⟩
theorem nT.free (h:HI H held s0){d:eW}{x thread e:Int}(hd:d.kd=1)(o:fT H H')(hf:nO H thread x H' e):nT H d x H':=by
 refine nT.op h o λj a g=>?_;have i:=h.pK a;rcases hf with⟨_,h2,_⟩|⟨_,_,_,h4⟩|⟨_,b,_,_,h4⟩
 ·rw[h2];exact a
 ·rw[h4];exact a
 ·rw[h4];refine AK.2 ⟨a,λm=>g.2 ⟨.inr (.inl hd),O,O⟩⟩
theorem nT.step (h:HI H held s0){d:eW}{x:Int}(hg:H.bR[t]?=some g){p:Ph}(hp:g.ph=some p):nT H d x (Kd H t p):=by
 have J:=(cY.1 hg).1;have s:=h.Ty hg hp;have E:fF H t=some p:=by unfold fF;rw[hg];exact hp
 have live:∀e∈H.live,p≠.find e.1->e∈(Kd H t p).live:=λe i B=>by
  by_cases hf:lM p
  ·obtain⟨_,_,_,G,r⟩:=qW h hg hp hf;by_cases u:∃y,p=.find y
   ·obtain⟨y,rfl⟩:=u;cases hm:bU H.live y with
    | none=>rw[((r y rfl).1 hm).2.2];exact i
    | some b=>
     rw[((r y rfl).2 b hm).2];exact AK.2 ⟨i,λa=>B (by rw[a])⟩
   ·rw[(G λy a=>u ⟨y,a⟩).2];exact i
  ·obtain⟨cl,K,D⟩:=Eh h hg hp hf;obtain⟨_,m⟩:=sd h hg hp D;rcases m with⟨_,_,_,e2,_⟩|⟨_,_,_,e4⟩|⟨_,_,e3,e4⟩
   ·rw[e2];exact i
   ·rw[e4];exact i
   ·rw[e4];exact(yZ e3).2 (.inl i)
 have C:∀y,(WG H t p).2.1≠some (.find y):=λy a=>by
  by_cases hf:lM p
  ·obtain⟨_,_,m,_⟩:=qW h hg hp hf;rcases m with⟨p',w,e1,_,e3,_⟩|e1
   ·rw[e1]at a;exact e3 y (Option.some.inj a)
   ·rw[e1]at a;cases a
  ·obtain⟨cl,K,D⟩:=Eh h hg hp hf;obtain⟨_,m⟩:=sd h hg hp D;rcases m with⟨p',w,e1,_,_,e4,_⟩|⟨e1,_⟩|⟨e1,_⟩
   ·rw[e1]at a;cases a;exact e4.elim
   ·rw[e1]at a;cases a
   ·rw[e1]at a;cases a
 refine⟨s.hi,He H t p,λe i F=>⟨live e i λu=>F.1 t (by rw[E,u]),h.kl s.ks e i,λj=>?_⟩⟩;by_cases hj:j=t
 ·subst hj;obtain⟨w,A,z⟩:=Gf (p:=p) J;unfold fF;rw[A];show w.ph≠_;rw[z];exact C _
 ·unfold fF;rw[UM p hj];exact F.1 j
end Go.Ar
namespace Go.Ar
open Go Go.Vc Go.Proofs
variable {U w w':Hp}{F P Q X:Rg}{L:dE}{H H':Hw}{held:List Pc}{s0:Sp}{t n:Nat}{g:Th}
structure gA (σ0 U:Hp) (L:dE) (H:Hw) (held:List Pc) (s0:Sp) (P Q:Rg) (addrs:Sl) (ad:List Int):Prop where
 e:aF σ0 U
 h:HH U P L H
 hi:HI H held s0
 cf:iU H
 pg:H.cf.aG<=128
 pP:∀b,P b->σ0.size<=b/\b<U.size
 pQ:∀b,Q b->σ0.size<=b/\b<U.size/\¬P b
 row:bT addrs 1 (Wx ad) U Q
 al:ad.length<=60
 g0:iX (λb=>σ0.size<=b)/\¬σ0.size<=1
variable {σ0:Hp}{addrs:Sl}{ad:List Int}
theorem gA.step (p:gA σ0 U L H held s0 P Q addrs ad){ts':List eR}(e:Ext P U w)(h':HH w (Grow P U) {L with ts:=ts'} H'){held':List Pc}{s0':Sp}(hi':HI H' held' s0')(k:Q0 H' H) :
 gA σ0 w {L with ts:=ts'} H' held' s0' (Cut (Grow P U) w) Q addrs ad:=by
 have j:=e.1;refine⟨Ext.dX p.e e λb a=>.inr (p.pP b a).1,h'.cut,hi',p.cf.bS k,by rw[k.2.1];exact p.pg,λb a=>⟨?_,a.2⟩,λb a=>?_,aI.bS p.row e λb _ d g=>(p.pQ b d).2.2 g,p.al,p.g0⟩
 ·have:=p.e.1;rcases a.1 with h1|h1
  ·exact(p.pP b h1).1
  ·omega
 ·obtain⟨q1,q2,q3⟩:=p.pQ b a;exact⟨q1,O,λi=>by
   rcases i.1 with h1|h1
   ·exact q3 h1
   ·omega⟩
theorem gA.fr (p:gA σ0 U L H held s0 P Q addrs ad)(e:aF U w):gA σ0 w L H held s0 P Q addrs ad:=
 ⟨p.e.trans e,p.h.bP e,p.hi,p.cf,p.pg,λb a=>⟨(p.pP b a).1,by have:=(p.pP b a).2;have:=e.1;omega⟩,λb a=>⟨(p.pQ b a).1,by have:=(p.pQ b a).2.1;have:=e.1;omega,(p.pQ b a).2.2⟩,aI.bP p.row e,p.al,p.g0⟩
theorem gA.out (p:gA σ0 U L H held s0 P Q addrs ad){T:Rg}(e:Ext T U w)(hT:∀b,b<U.size->T b->¬P b/\¬Q b/\σ0.size<=b):gA σ0 w L H held s0 P Q addrs ad:=by
 have r:=e.1;have g:Ext (λb=>T b/\b<U.size) U w:=⟨e.1,λb a m=>e.2 b a λd=>m ⟨d,a⟩⟩;refine⟨Ext.dX p.e g λb a=>.inr (hT b a.2 a.1).2.2,p.h.bS g (λb a j d=>(hT b a d.1).1 j) (λb a=>?_) (λa=>?_),p.hi,p.cf,p.pg,λb a=>⟨(p.pP b a).1,by have:=(p.pP b a).2;omega⟩,λb a=>⟨(p.pQ b a).1,by have:=(p.pQ b a).2.1;omega,(p.pQ b a).2.2⟩,aI.bS p.row g λb a i d=>(hT b a d.1).2.1 i,p.al,p.g0⟩
 ·exact p.g0.1 b (hT b a.2 a.1).2.2
 ·exact p.g0.2 (hT _ a.2 a.1).2.2
theorem xL (hr:bT addrs 1 (Wx ad) U Q)(hl:ad.length<=1000000)(x:Int){e t:Nat}{K:Sl->Hp->Prop}(hK:∀s' w,Ext Q U w->bT s' 1 (Wx (ad++[x])) w (λb=>Q b\/U.size<=b/\b<w.size)->K s' w) :
 Nw (.cells #[.int .i64 x] t (0,0)) U λn v=>App addrs 1 8 e [.int .i64 0] ⟨some n,1,1⟩ v K:=by
 have p:addrs.len=ad.length:=by have:=hr.1;simp[Wx]at this;omega
 refine bT.push (F:=λb=>Q b\/U.size<=b) (vs:=[.int .i64 x]) (aI.mono hr λb _ a=>.inl a) (λb a=>.inr a) rfl rfl (by simp[dY]) O O λs' w i g m=>hK s' w ⟨g.1,λb a j=>g.2 b a λd=>d.elim j λd=>O⟩ ?_;have:Wx (ad++[x])=Wx ad++[.int .i64 x]:=by simp[Wx]
 rw[this];refine aI.mono (aI.cut m) λb a d=>?_;rcases d.1 with h1|h1
 ·exact .inl h1
 ·exact .inr ⟨h1,a⟩
end Go.Ar
namespace Go.Ar
open Go.Vc (bU dA cO)
def i63 (x:Int):Bool:=decide (x<=9223372036854775807)
def qN (H:Hw)(t:Nat):Ph->Bool
 | .take k=>decide (k<H.tb.length)&&(match KK (H.cls k) ((H.j6 t).li k)with
  | (some y,_)=>i63 y
  | (none,_)=>true)
 | .cJ k _=>decide (k<H.tb.length)&&(QE (H.eN t) (k:Int) != 0 || !(YQ (H.eN t) (k:Int)).isEmpty)
 | .cL _ _=>true
 | .grow _ _=>true
 | .fill=>match (H.j6 t).bQ with
  | (k,x::xs)::_=>decide (k<H.tb.length)&&(i63 x&&decide (((H.j6 t).li k).os.length+xs.length<=256))
  | _=>false
 | .eP m=>decide (QD (H.eN t) H.sp (m:Int) 1<=1000000)
 | .find x=>i63 x&&((bU H.live x).isSome&&decide (0<=x))
 | .put k _=>decide (k<H.tb.length) && !(H.j6 t).bQ.isEmpty
 | .back=>match (H.j6 t).bQ with
  | (_,xs)::_=>(xs.all λx=>i63 x&&decide (0<=Yg H.bZ x))&&decide (xs.length<=1000000)
  | _=>false
 | .dH _ a=>decide (0<=a)&&(decide (a.toNat<H.bZ.length)&&H.bZ.all λA=>A.runs.all λr=>decide (r.1<=1000000))
 | .drain=>true
theorem A7 {x:Int}(h:i63 x=true):iN x:=by
 unfold i63 at h;unfold iN;exact tE h
theorem SN {H:Hw}{t:Nat}{p:Ph}(h:qN H t p=true):vG H t p:=by
 cases p with
 | take k=>
  simp only[qN,zF,zV]at h;refine⟨h.1,λy l z=>?_⟩;have g:=h.2;rw[z]at g;exact A7 g
 | cJ k w=>
  simp only[qN,zF,zV,nW]at h;refine⟨h.1,λu d=>?_⟩;rw[u,d]at h;simp at h
 | cL k w=>trivial
 | grow k w=>trivial
 | fill=>
  simp only[qN]at h;split at h
  ·rename_i k x xs r hh;simp only[zF,zV]at h;exact⟨k,x,xs,r,hh,h.1,A7 h.2.1,h.2.2⟩
  ·cases h
 | eP m=>
  simp only[qN,zV]at h;exact h
 | find x=>
  simp only[qN,zF,zV]at h;exact⟨A7 h.1,λj=>by rw[j]at h;simp at h,λb _=>h.2.2⟩
 | put k x=>
  simp only[qN,zF,zV]at h;exact⟨h.1,λd=>by rw[d]at h;simp at h⟩
 | back=>
  simp only[qN]at h;split at h
  ·rename_i k xs r hh;simp only[zF,zV,kz]at h;exact⟨k,xs,r,hh,λx i=>⟨A7 (h.1 x i).1,(h.1 x i).2⟩,h.2⟩
  ·cases h
 | dH s a=>
  simp only[qN,zF,zV,kz]at h;exact⟨h.1,h.2.1,h.2.2⟩
 | drain=>trivial
def pH:Nat->Hw->Nat->Ph->Option (Hw×Int×Int)
 | 0,_,_,_=>none
 | n+1,H,t,p=>if qN H t p&&decide ((H.j6 t).bQ.length<=900)then(match (WG H t p).2.1 with
  | none=>some (Kd H t p,(WG H t p).2.2.1,(WG H t p).2.2.2)
  | some p'=>pH n (Kd H t p) t p')else none
theorem EN:∀{n:Nat} {H:Hw} {t:Nat} {p:Ph} {r:Hw×Int×Int},pH n H t p=some r->∃m,iJ m H t p r.1 r.2.1 r.2.2
 | 0,_,_,_,_,h=>by simp[pH]at h
 | n+1,H,t,p,r,h=>by
  rw[pH]at h;split at h
  ·rename_i hc;simp only[zF,zV]at hc;have hok:vL H t p:=⟨SN hc.1,λg a=>by rw[←G7 a];exact hc.2⟩;split at h
   ·rename_i hn;cases h;exact⟨1,.done hok hn⟩
   ·rename_i p' hs;obtain⟨m,b⟩:=EN h;exact⟨m+1,.next hok hs b⟩
  ·cases h
def UU (H:Hw)(thread kind size align addr:Int):Option (Hw×Int×Int):=match Vb H thread kind size align addr with
 | .inl e=>if e=0 then none else some (H,0,e)
 | .inr (t,p)=>pH 40 (eY H t (some p)) t p
theorem IV {H:Hw}{thread kind size align addr:Int}{r:Hw×Int×Int}(h:UU H thread kind size align addr=some r):KM H thread kind size align addr r.1 r.2.1 r.2.2:=by
 unfold UU at h;split at h
 ·rename_i e he;split at h
  ·cases h
  ·rename_i hne;cases h;exact .inl ⟨he,hne,rfl,rfl⟩
 ·rename_i t p he;obtain⟨m,a⟩:=EN h;exact .inr ⟨t,p,m,he,a⟩
def I3:List cA:=(re 8).map QH
def w0:Hw:=Uu I3 ⟨64,1,1,1024,2⟩
theorem xM:Uu ((re 8).map QH) ⟨(64:Int).toNat,(1:Int).toNat,(1:Int).toNat,(1024:Int).toNat,(2:Int).toNat⟩=w0:=rfl
end Go.Ar
namespace Go.Ar
open Go Go.Vc Go.Proofs
variable {U u u':Hp}{F:Rg}{L:dE}{H H':Hw}{N:Nat}
attribute [local irreducible] w0 I3
theorem OS (g:Gl U)(gd:Gd U){R:Option Addr->Hp->Prop}(hR:∀σ' L N,aF U σ'->U.size<=N->N<=σ'.size->HH σ' (λb=>N<=b) L w0->R (some ⟨L.p,0,none⟩) σ'):XP.c U R:=by
 refine XP.o ?_;unfold XP.v;refine WN.o ?_;unfold WN.v;refine nw (cs:=[.int .i64 8,.int .i64 64,.int .i64 1,.int .i64 1,.int .i64 1024,.int .i64 2]) λv y e j=>j.rI rfl ?_;refine Jx 8 aB aB λs r e1 u=>?_;have a:=e1.bV j id;have d:=e.trans e1;refine a.fE rfl (a.fE rfl (a.fE rfl (a.fE rfl (a.fE rfl ?_))));refine Ek u (g.bP d) (gd.bP d) 64 1 1 1024 2 (λi=>?_) (λ_ x=>?_) λ_ _ w L e2 m=>?_
 ·have:=Gy 8 aB aB;rw[show((8:Nat):Int)=8 from rfl]at this;rw[this]at i;cases i
 ·exact absurd x aB
 ·rw[xM]at m;exact cD rfl (hR w L r.size (d.trans e2) d.1 e2.1 m)
end Go.Ar
namespace Go.Proofs
open Go.Vc
set_option maxRecDepth 100000
def XG.h:Hn:=.q .o2 (.q (.q .o3 (.c (.q .o3 .l) .l)) (.q .o9 (.q (.q .o2 (.c (.q .o3 .l) .l)) (.q .o4 .l))))
def XG.v (a:R2)(b:Int)(c:Hp)(d:Int->Int->Int->Int->Int->Hp->Prop):Prop:=aV #[.I 0,.I 0,.I 0,.I 0] 48 c λe f=>W9.c a f λg h=>If (!g) (aR e 0 (.I 0) h λi=>aR e 1 (.I 0) i λj=>aR e 2 (.I 0) j λk=>aR e 3 (.I 0) k λl=>aQ e 0 l λm=>aQ e 1 l λn=>aQ e 2 l λo=>aQ e 3 l λp=>d m n o p 5 l) (Zx.c a b ⟨60,#[],#[]⟩ h λq r s t u v w=>aV #[.I 0,.I 0,.I 0,.I 0,.I 0] 106 w λx y=>aR x 0 (.I q) y λz=>aR x 1 (.I r) z λaa=>aR x 2 (.I s) aa λab=>aR x 3 (.I t) ab λac=>aR x 4 (.I u) ac λad=>If (!v) (aR e 0 (.I 0) ad λae=>aR e 1 (.I 0) ae λaf=>aR e 2 (.I 0) af λag=>aR e 3 (.I 0) ag λah=>aQ e 0 ah λai=>aQ e 1 ah λaj=>aQ e 2 ah λak=>aQ e 3 ah λal=>d ai aj ak al 8 ah) (bN ((x.add 0).add 0) ad λam=>bN ((x.add 0).add 1) ad λan=>bN ((x.add 0).add 2) ad λao=>bN ((x.add 0).add 3) ad λap=>aR e 0 (.I am) ad λaq=>aR e 1 (.I an) aq λar=>aR e 2 (.I ao) ar λau=>aR e 3 (.I ap) au λav=>aQ e 0 av λaw=>aQ e 1 av λax=>aQ e 2 av λay=>aQ e 3 av λaz=>d aw ax ay az 0 av))
theorem XG.o {a b c d}(e:XG.v a b c d):XG.c a b c d:=Wa Tryz.func24 (x:=XG.h) (R0 e)
def Zb.h:Hn:=.q .o1 (.q (.q .o3 .aK) (.q .o1 (.q (.q .o8 (.k (.loop [(3,.one .s),(16,.I)] (.q .o1 (.q (.c .l .l) (.q (.k (.q .o3 (.o 11))) .o2)))))) .aL)))
def Zb.v (a:R2)(b:Hp)(c:Sl->Hp->Prop):Prop:=W9.c a b λd e=>If (!d) (c ⟨none,0,0⟩ e) (bJ a 1 e λg=>ZF.c g e λh i=>Ua.c h i λj k=>X8 [.s,bO] (λl=>l ⟨none,0,0⟩ 0 k) λm (n:Sl) (o:Int) p=>If (o<((j.len:Nat):Int)) (Ix j.a j.len o 1 λq=>bN q p λr=>bW a λs=>bC s 1 p λt=>Lk .i64 (.ag 5) t r p λu=>aV #[.I ((u.getD (0,0,0,0,0)).1),.I ((u.getD (0,0,0,0,0)).2.1),.I ((u.getD (0,0,0,0,0)).2.2.1),.I ((u.getD (0,0,0,0,0)).2.2.2.1)] 48 p λv w=>App n 4 32 48 [.I 0,.I 0,.I 0,.I 0] ⟨some v,1,1⟩ w λx y=>bM (o+1) λz=>m x z y) (c n p))
theorem Zb.o {a b c}(d:Zb.v a b c):Zb.c a b c:=Wa Tryz.func33 (x:=Zb.h) (R0 d)
def Ke.h:Hn:=.q .o2 (.q (.q .o3 .aJ) (.q .o7 .l))
def Ke.v (a:R2)(b:Hp)(c:Option Addr->Int->Hp->Prop):Prop:=Q9.c a b λd e=>If (!d) (c none 1 e) (Nw (.map #[] 0) e λf g=>Nw (.map #[] 0) g λh i=>aV #[.pointer a,.map (some f.block),.map (some h.block),.I 0] 75 i λj k=>c (some j) 0 k)
theorem Ke.o {a b c}(d:Ke.v a b c):Ke.c a b c:=Wa Tryz.func38 (x:=Ke.h) (R0 d)
def XD.h:Hn:=.q .o1 (.q (.q .o3 .aK) (.q .o5 .l))
def XD.v (a:R2)(b:Hp)(c:Option Addr->Hp->Prop):Prop:=W9.c a b λd e=>If (!d) (c none e) (bG a 0 e λg=>c g e)
theorem XD.o {a b c}(d:XD.v a b c):XD.c a b c:=Wa Tryz.func43 (x:=XD.h) (R0 d)
def Ya.h:TX:=.nx (.o 3) (.nx (.seq (.o 3) (.cond (.seq (.o 2) (.leaf)) (.leaf))) (.nx (.seq (.cU (.seq [.op,.op,.op,.cX false 2 [.op,.op],.op,.cX false 2 [.op,.op],.op,.cX false 2 [.op,.op],.op,.cX false 5 [.op,.op,.op,.op,.op]])) (.cond (.seq (.o 2) (.leaf)) (.leaf))) (.nx (.o 3) (.nx (.o 5) (.nx (.cU (.held true [] (.take 0 (.take 1 (.take 2 (.take 3 (.take 4 (.take 5 (.take 6 (.take 10 (.all [(7,.take 8 (.take 9 (.all [(11,.take 12 (.take 13 (.take 14 (.take 15 (.take 16 (.done))))))])))]))))))))))) (.nx (.seq (.o 2) (.cond (.seq (.o 3) (.leaf)) (.leaf))) (.nx (.o 8) (.nx (.o 16) (.nx (.o 12) (.r1 (.o 2) bO (.block (.cU (.held true [] (.take 0 (.take 1 (.take 2 (.take 3 (.take 4 (.take 5 (.all [(6,.all [(7,.done)])])))))))))) (.seq (.o 3) (.seq (.cU (.held true [8] (.take 0 (.take 1 (.take 2 (.take 3 (.take 4 (.take 5 (.take 6 (.take 7 (.all [(8,.done)]))))))))))) (.seq (.o 5) (.leaf))))))))))))))
def Ya.v (a:R2)(b c d:Int)(e:Hp)(f:Int->Int->Hp->Prop):Prop:=aV #[.pointer a] 50 e λg h=>fY g h λi=>W9.c i h λj k=>If (!j) (f 0 5 k) (bX (λl m=>bX (λn o=>bX (λp q=>bX (λr s=>If r (f 0 1 s) (aV #[.I 0,.I 0,.I 0,.I 0,.I 0] 106 s λt u=>aR t 0 (.I 0) u λv=>aR t 1 (.I c) v λw=>aR t 2 (.I 0) w λx=>aR t 3 (.I 0) x λy=>aR t 4 (.I 0) y λz=>dW z λaa=>gN aa .p g λ(ab:R2)=>bW ab λac=>aU aa ac 0 λad=>aS aa t 0 λae=>aS aa t 1 λaf=>aS aa t 2 λag=>aS aa t 3 λah=>aS aa t 4 λai=>XE.c ae af ag ah ai z λaj ak=>And (aa ak) <| bM ((if 16>d then 16 else d)+aj) λal=>bM (al+16) λam=>Y4.c ad b am (if 16>d then 16 else d) ak λan ao ap=>And (aa ap) <| If (ao != 0) (f 0 ao ap) (fY g ap λaq=>bE aq 3 ap λau=>bM (au+1) λav=>bW aq λaw=>aR aw 3 (.I av) ap λax=>fY g ax λay=>bE ay 3 ax λa0=>bM (an+(if 16>d then 16 else d)) λa1=>aR t 4 (.I a0) ax λa2=>dQ ((t.add 0).add 2) (.I an) a2 λa3=>dQ ((t.add 0).add 0) (.I a1) a3 λa4=>fY g a4 λa5=>bG a5 0 a4 λa7=>XU.c a7 an a4 λa8 a9 ba=>dQ ((t.add 0).add 3) (.I a8) ba λbb=>aQ t 0 bb λbc=>aQ t 1 bb λbd=>aQ t 2 bb λbe=>aQ t 3 bb λbf=>aQ t 4 bb λbg=>
 X5.c bc bd be bf bg bb λbh bi=>BL Tryz.prog (e1 bO) bh bi (λ(bj:Int) bk bl=>dW bl λbm=>gN bm .p g λ(bn:Option Addr)=>bW bn λbo=>aU bm bo 0 λbp=>Z7.c bj bl λbq br=>And (bm br) <| XA.c bp bj bq br λbs bt=>And (bm bt) <| bk bt) λbu=>fY g bu λbv=>aQ t 0 bu λbw=>aQ t 1 bu λbx=>aQ t 2 bu λbz=>aQ t 3 bu λb0=>aQ t 4 bu λb1=>Yw.c bv bw bx bz b0 b1 0 bu λb2=>dW b2 λb3=>gN b3 .p g λ(b4:Option Addr)=>bW b4 λb5=>gN b3 .m (b5.add 1) λ(b6:Option Nat)=>gN b3 bO ((t.add 0).add 0) λ(b7:Int)=>aS b3 t 0 λb8=>aS b3 t 1 λb9=>aS b3 t 2 λca=>aS b3 t 3 λcb=>aS b3 t 4 λcc=>kI .i64 (.ag 5) b6 b7 (b8,b9,ca,cb,cc) b2 λcd=>bN ((t.add 0).add 0) cd λce=>vv bi.size cd λcf=>f ce 0 cf))) λcg=>If p (cg true q) (bM (d-1) λch=>cg ((bits .and .i64 d ch) != 0) q)) λci=>If n (ci true o) (ci (decide (d>256)) o)) λcj=>If l (cj true m) (cj (decide (d<1)) m)) λck=>If (c<1) (ck true k) (ck (decide (c>1024)) k))
theorem Ya.o {a b c d e f}(g:Ya.v a b c d e f):Ya.c a b c d e f:=Ib Tryz.func56 (x:=Ya.h) (R0 g)
def W9.h:Hn:=.q .o1 (.q (.cU (.seq [.op,.op,.op,.cX true 5 (RI.ops 5),.op])) .l)
def W9.v (a:R2)(b:Hp)(c:aO):Prop:=bX (λd e=>c d e) λf=>If (!a.isNone) (bG a 0 b λh=>f (!h.isNone) b) (f false b)
theorem W9.o {a b c}(d:W9.v a b c):W9.c a b c:=Wa Tryz.func58 (x:=W9.h) (R0 d)
def Zx.h:Hn:=.q .o2 (.q .o1 (.q .o2 (.q (.q .o5 (.k (.loop [(9,.one .b),(10,.one .b)] (.q (.cU (.seq [.it .i64 (.ag 5),.op])) (.q (.c .l .l) (.k (.q (.cU (.seq [.it .i64 (.ag 5),.op,.op,.op])) (.q (.q (.cU (.gP true [] [(38,.one .b)] (.tk [0,1,2,3,4,5] (.split 28 (.tk [6,7,8,9,10,11,12,13,14,15] (.done)) (.tk [6,7,8,9,10,11] (.all [(12,.tk [13,14,15] (.done))])))))) (.c .l .l)) (.q .o5 (.q (.cU (.seq [.op,.op,.op,.cX false 5 [.op,.op,.cX true 2 [.op,.op]],.op,.cX false 10 [.op,.op,.op,.op,.cX true 5 (RI.ops 5)]])) (.c .o5 .l))))))))))) (.q .o4 .l))))
def Zx.v (a:R2)(b:Int)(c:Fv)(d:Hp)(e:Int->Int->Int->Int->Int->Bool->Hp->Prop):Prop:=aV #[.I 0,.I 0,.I 0,.I 0,.I 0] 106 d λf g=>aV #[.I 0,.I 0,.I 0,.I 0,.I 0] 106 g λh i=>bJ a 1 i λk=>oW .i64 (.ag 5) k i λl m=>X8 [.b,.b] (λn=>n false false m) λo (p:Bool) (q:Bool) r=>pG .i64 (.ag 5) l r (aQ h 0 r λs=>aQ h 1 r λt=>aQ h 2 r λu=>aQ h 3 r λv=>aQ h 4 r λw=>aR f 0 (.I s) r λx=>aR f 1 (.I t) x λy=>aR f 2 (.I u) y λz=>aR f 3 (.I v) z λaa=>aR f 4 (.I w) aa λab=>aQ f 0 ab λac=>aQ f 1 ab λad=>aQ f 2 ab λae=>aQ f 3 ab λaf=>aQ f 4 ab λag=>e ac ad ae af ag p ab) (λah ai aj=>oO .i64 (.ag 5) l aj λak al=>aV #[.I 0,.I 0,.I 0,.I 0,.I 0] 106 aj λam an=>aR am 0 (.I al.1) an λao=>aR am 1 (.I al.2.1) ao λap=>aR am 2 (.I al.2.2.1) ap λaq=>aR am 3 (.I al.2.2.2.1) aq λar=>aR am 4 (.I al.2.2.2.2) ar λau=>Jn [.b] (λ(av:Bool) aw=>If av (o p q aw) (aQ am 0 aw λax=>aQ am 1 aw λay=>aQ am 2 aw λaz=>aQ am 3 aw λa0=>aQ am 4 aw λa1=>XC.c a ax ay az a0 a1 aw λa2 a3=>bX (λa4 a5=>bX (λa6 a7=>If a6 (aQ am 0 a7 λa8=>aQ am 1 a7 λa9=>aQ am 2 a7 λba=>aQ am 3 a7 λbb=>aQ am 4 a7 λbc=>aR h 0 (.I a8) a7 λbd=>
 aR h 1 (.I a9) bd λbe=>aR h 2 (.I ba) be λbf=>aR h 3 (.I bb) bf λbg=>aR h 4 (.I bc) bg λbh=>o true (!a2) bh) (o p q a7)) λbi=>If a4 (bi true a5) (bX (λbj bk=>bi bj bk) λbl=>If ((!a2)==q) (aQ am 4 a5 λbm=>aQ h 4 a5 λbn=>bl (decide (bm>bn)) a5) (bl false a5))) λbo=>If (!p) (bo true a3) (bX (λbp bq=>bo bp bq) λbr=>If (!a2) (br (!q) a3) (br false a3)))) λbs=>dW au λbt=>gN bt bO ((am.add 0).add 0) λ(bu:Int)=>If (b<bu) (bs true au) (gN bt bO ((am.add 0).add 0) λ(bv:Int)=>aS bt am 0 λbw=>aS bt am 1 λbx=>aS bt am 2 λbz=>aS bt am 3 λb0=>aS bt am 4 λb1=>VO Tryz.prog c [.agg #[.I bw,.I bx,.I bz,.I b0,.I b1]] [.I] au λb2 b3=>And (bt b3) <| bM (bv+b2) λb4=>bs (decide (b≥b4)) b3))
theorem Zx.o {a b c d e}(f:Zx.v a b c d e):Zx.c a b c d e:=Wa Tryz.func59 (x:=Zx.h) (R0 f)
def YY.h:Hn:=.q .o2 (.q .o4 .l)
def YY.v (a b c d e:Int)(f:Hp)(g:aN):Prop:=aV #[.I a,.I b,.I c,.I d,.I e] 106 f λh i=>bN ((h.add 0).add 1) i λj=>g j i
theorem YY.o {a b c d e f g}(h:YY.v a b c d e f g):YY.c a b c d e f g:=Wa Tryz.func60 (x:=YY.h) (R0 h)
def Za.h:Hn:=.q .o1 (.q .o5 .l)
def Za.v (a:R2)(b c:Int)(d:Hp)(e:aN):Prop:=XV.c a b c true d λf g=>e f g
theorem Za.o {a b c d e}(f:Za.v a b c d e):Za.c a b c d e:=Wa Tryz.func70 (x:=Za.h) (R0 f)
def X2.h:Hn:=.q .o2 (.q (.q .o3 .aJ) (.q (.o 12) (.q (.q .o2 .aJ) (.q (.q .o3 .aJ) (.q .o5 .l)))))
def X2.v (a:R2)(b:Int)(c:Hp)(d:Sl->Int->Hp->Prop):Prop:=W9.c a c λe f=>If (!e) (d ⟨none,0,0⟩ 5 f) (bJ a 1 f λh=>Lk .i64 (.ag 5) h b f λi=>aV #[.I 0,.I 0,.I 0,.I 0,.I 0] 106 f λj k=>aR j 0 (.I ((i.getD (0,0,0,0,0)).1)) k λl=>aR j 1 (.I ((i.getD (0,0,0,0,0)).2.1)) l λm=>aR j 2 (.I ((i.getD (0,0,0,0,0)).2.2.1)) m λn=>aR j 3 (.I ((i.getD (0,0,0,0,0)).2.2.2.1)) n λo=>aR j 4 (.I ((i.getD (0,0,0,0,0)).2.2.2.2)) o λp=>If (!i.isSome) (d ⟨none,0,0⟩ 8 p) (aQ j 0 p λq=>aQ j 1 p λr=>aQ j 2 p λs=>aQ j 3 p λt=>aQ j 4 p λu=>XC.c a q r s t u p λv w=>If v (d ⟨none,0,0⟩ 5 w) (aQ j 0 w λx=>aQ j 1 w λy=>aQ j 2 w λz=>aQ j 3 w λaa=>aQ j 4 w λab=>XL.c a x y z aa ab w λac ad=>d ac 0 ad)))
theorem X2.o {a b c d}(e:X2.v a b c d):X2.c a b c d:=Wa Tryz.func71 (x:=X2.h) (R0 e)
def Y8.h:Hn:=.q .o2 (.q (.q .o4 (.q .o2 (.c (.q .o3 .l) .l))) (.q .gD .l))
def Y8.v (a:R2)(b:Int)(c:Hp)(d:Int->Int->Hp->Prop):Prop:=Yi.c a b c λe f=>If (e != 0) (d 0 e f) (bG a 0 f λh=>YN.c h b f λi j k=>d i j k)
theorem Y8.o {a b c d}(e:Y8.v a b c d):Y8.c a b c d:=Wa Tryz.func76 (x:=Y8.h) (R0 e)
def Q9.h:Hn:=.q .o1 (.q (.cU (.seq [.op,.op,.op,.cX true 4 (RI.ops 4),.op])) .l)
def Q9.v (a:R2)(b:Hp)(c:aO):Prop:=bX (λd e=>c d e) λf=>If (!a.isNone) (XS.c a b λg h i j k l=>f (decide (g>0)) l) (f false b)
theorem Q9.o {a b c}(d:Q9.v a b c):Q9.c a b c:=Wa Tryz.func77 (x:=Q9.h) (R0 d)
def YD.h:Hn:=.q .o1 (.q (.q .o4 (.q .o2 .aJ)) (.q .o8 .l))
def YD.v (a:R2)(b c:Int)(d:Hp)(e:aN):Prop:=Yi.c a b d λf g=>If (f != 0) (e f g) (bG a 0 g λi=>XA.c i b c g λj k=>e j k)
theorem YD.o {a b c d e}(f:YD.v a b c d e):YD.c a b c d e:=Wa Tryz.func78 (x:=YD.h) (R0 f)
def XE.h:Hn:=.q .o2 (.q .o8 .l)
def XE.v (a b c d e:Int)(f:Hp)(g:aN):Prop:=aV #[.I a,.I b,.I c,.I d,.I e] 106 f λh i=>bN ((h.add 0).add 1) i λj=>bM (j+8) λk=>bM (k-1) λl=>Nz 8<|bM (l.tdiv 8) λm=>bM (m*8) λn=>g n i
theorem XE.o {a b c d e f g}(h:XE.v a b c d e f g):XE.c a b c d e f g:=Wa Tryz.func98 (x:=XE.h) (R0 h)
def X5.h:Hn:=.q .o2 .aL
def X5.v (a b c d e:Int)(f:Hp)(g:Fv->Hp->Prop):Prop:=aV #[.I a,.I b,.I c,.I d,.I e] 106 f λh i=>g ⟨156,#[],#[.pointer (some h)]⟩ i
theorem X5.o {a b c d e f g}(h:X5.v a b c d e f g):X5.c a b c d e f g:=Wa Tryz.func100 (x:=X5.h) (R0 h)
def Z7.h:Hn:=.q .o1 (.q .o4 .l)
def Z7.v (a:Int)(b:Hp)(c:aN):Prop:=bM (0-a) λd=>bM (d-1) λe=>c e b
theorem Z7.o {a b c}(d:Z7.v a b c):Z7.c a b c:=Wa Tryz.func101 (x:=Z7.h) (R0 d)
def Yw.h:Hn:=.q .o1 (.q .o1 (.k (.loop [(6,.I)] (.q (.q .o4 (.c .l .l)) (.q (.k (.cU (.tail 10 (RI.ops 10) [.op]))) .o3)))))
def Yw.v (a:R2)(b c d e f g:Int)(h:Hp)(i:aP):Prop:=aV #[.I b,.I c,.I d,.I e,.I f] 106 h λj k=>X8 [bO] (λl=>l 0 k) λm (n:Int) o=>aQ j 0 o λp=>aQ j 1 o λq=>aQ j 2 o λr=>aQ j 3 o λs=>aQ j 4 o λt=>XE.c p q r s t o λu v=>If (n<u) (bG a 0 v λx=>bN ((j.add 0).add 0) v λy=>bM (y+n) λz=>XA.c x z g v λaa ab=>bM (n+8) λac=>m ac ab) (i v)
theorem Yw.o {a b c d e f g h i}(j:Yw.v a b c d e f g h i):Yw.c a b c d e f g h i:=Wa Tryz.func102 (x:=Yw.h) (R0 j)
def XC.h:Hn:=.q .o2 (.q (.cU (.held true [7] (.tk [0,1,2,3,4,5,6] (.all [(7,.tk [8,9,10,11,12] (.done))])))) (.q (.cU (.seq [.op,.op,.op,.cX false 5 (RI.ops 5),.op])) .l))
def XC.v (a:R2)(b c d e f:Int)(g:Hp)(h:aO):Prop:=aV #[.I b,.I c,.I d,.I e,.I f] 106 g λi j=>dW j λk=>bW a λl=>aU k l 0 λm=>gN k bO ((i.add 0).add 2) λ(n:Int)=>XU.c m n j λo p q=>bX (λr s=>h r s) λt=>If (p != 0) (t true q) (bN ((i.add 0).add 3) q λu=>t (o != u) q)
theorem XC.o {a b c d e f g h}(i:XC.v a b c d e f g h):XC.c a b c d e f g h:=Wa Tryz.func103 (x:=XC.h) (R0 i)
def Zj.h:Hn:=.q .o1 (.q .o5 .l)
def Zj.v (a:R2)(b c:Int)(d:Hp)(e:aN):Prop:=XV.c a b c false d λf g=>e f g
theorem Zj.o {a b c d e}(f:Zj.v a b c d e):Zj.c a b c d e:=Wa Tryz.func109 (x:=Zj.h) (R0 f)
def XV.h:Hn:=.q .o1 (.q (.q .o3 .aK) (.q (.q .o4 (.q .o2 .aJ)) (.q (.o 12) (.q (.k (.q (.cU (.seq [.op,.op,.op,.cX true 6 (RI.ops 6),.op])) (.c .aM (.q .o3 (.c .aM (.q .o4 (.c .aM (.q (.cU (.seq [.op,.op,.cX true 5 (RI.ops 5),.op])) .aK)))))))) (.q .o3 (.q .o6 (.q .o6 (.q (.cU (.tail 8 (RI.ops 8) [.op])) .aM))))))))
def XV.v (a:R2)(b c:Int)(d:Bool)(e:Hp)(f:aN):Prop:=W9.c a e λg h=>If (!g) (f 5 h) (YI.c a b h λi j=>If (i != 0) (f i j) (bJ a 1 j λl=>Lk .i64 (.ag 5) l c j λm=>aV #[.I 0,.I 0,.I 0,.I 0,.I 0] 106 j λn o=>aR n 0 (.I ((m.getD (0,0,0,0,0)).1)) o λp=>aR n 1 (.I ((m.getD (0,0,0,0,0)).2.1)) p λq=>aR n 2 (.I ((m.getD (0,0,0,0,0)).2.2.1)) q λr=>aR n 3 (.I ((m.getD (0,0,0,0,0)).2.2.2.1)) r λs=>aR n 4 (.I ((m.getD (0,0,0,0,0)).2.2.2.2)) s λt=>bX (λu v=>If u (f 9 v) (If (!m.isSome) (f 8 v) (aQ n 0 v λw=>aQ n 1 v λx=>aQ n 2 v λy=>aQ n 3 v λz=>aQ n 4 v λaa=>XC.c a w x y z aa v λab ac=>If ab (f 5 ac) (bX (λad ae=>If ad (f 10 ae) (aQ n 0 ae λaf=>aQ n 1 ae λag=>aQ n 2 ae λah=>aQ n 3 ae λai=>aQ n 4 ae λaj=>Yw.c a af ag ah ai aj (-1234567) ae λak=>bJ a 1 ak λam=>lY .i64 (.ag 5) am c ak λan=>bJ a 2 an λap=>kI .i64 .b ap c true an λaq=>bG a 0 aq λau=>bN ((n.add 0).add 2) aq λav=>ZS.c au b av aq λaw ax=>f 0 ax)) λay=>If d (aQ n 0 ac λaz=>aQ n 1 ac λa0=>aQ n 2 ac λa1=>aQ n 3 ac λa2=>aQ n 4 ac λa3=>XL.c a az a0 a1 a2 a3 ac λa4 a5=>ay (decide (((a4.len:Nat):Int)>0)) a5) (ay false ac))))) λa6=>If (!m.isSome) (bJ a 2 t λa8=>
 Lk .i64 .b a8 c t λa9=>a6 (a9.getD false) t) (a6 false t)))
theorem XV.o {a b c d e f}(g:XV.v a b c d e f):XV.c a b c d e f:=Wa Tryz.func118 (x:=XV.h) (R0 g)
def XL.h:TX:=.nx (.o 3) (.nx (.o 1) (.r1 (.o 2) bO (.block (.seq (.o 11) (.seq (.cU (.seq [.op,.op,.op,.cX false 4 [.op,.op,.op,.op]])) (.cond (.o 5) (.leaf))))) (.seq (.o 2) (.leaf))))
def XL.v (a:R2)(b c d e f:Int)(g:Hp)(h:Sl->Hp->Prop):Prop:=aV #[.pointer a] 50 g λi j=>aV #[.I b,.I c,.I d,.I e,.I f] 106 j λk l=>aV #[.slice none 0 0] 31 l λm n=>aQ k 0 n λo=>aQ k 1 n λp=>aQ k 2 n λq=>aQ k 3 n λr=>aQ k 4 n λs=>X5.c o p q r s n λt u=>BL Tryz.prog (e1 bO) t u (λ(v:Int) w x=>fY i x λy=>bG y 0 x λaa=>YN.c aa v x λab ac ad=>bX (λae af=>If ae (jD m af λag=>aV #[.I v] 3 af λah ai=>App ag 1 8 3 [.I 0] ⟨some ah,1,1⟩ ai λaj ak=>dQ m (.slice aj.a aj.len aj.cap) ak λal=>w al) (w af)) λam=>If (ac != 0) (am true ad) (Z7.c v ad λan ao=>am (ab != an) ao)) λap=>jD m ap λaq=>vv u.size ap λar=>h aq ar
theorem XL.o {a b c d e f g h}(i:XL.v a b c d e f g h):XL.c a b c d e f g h:=Ib Tryz.func119 (x:=XL.h) (R0 i)
def Yi.h:Hn:=.q .o1 (.q (.q .o3 .aK) (.q .o9 (.q (.k (.q (.cU (.seq [.op,.op,.op,.cX false 3 (RI.ops 3),.op])) (.c .aM (.q .o4 .aK)))) .aM)))
def Yi.v (a:R2)(b:Int)(c:Hp)(d:aN):Prop:=W9.c a c λe f=>If (!e) (d 5 f) (Zx.c a b ⟨98,#[],#[]⟩ f λg h i j k l m=>aV #[.I 0,.I 0,.I 0,.I 0,.I 0] 106 m λn o=>aR n 0 (.I g) o λp=>aR n 1 (.I h) p λq=>aR n 2 (.I i) q λr=>aR n 3 (.I j) r λs=>aR n 4 (.I k) s λt=>bX (λu v=>If u (d 7 v) (aQ n 0 v λw=>aQ n 1 v λx=>aQ n 2 v λy=>aQ n 3 v λz=>aQ n 4 v λaa=>XC.c a w x y z aa v λab ac=>If ab (d 5 ac) (d 0 ac))) λad=>If (!l) (ad true t) (Nz 8 <| ad ((b.tmod 8) != 0) t))
theorem Yi.o {a b c d}(e:Yi.v a b c d):Yi.c a b c d:=Wa Tryz.func123 (x:=Yi.h) (R0 e)
def cI.sB (l:Nat)(cap0:Addr)(U:Hp)(R:aP):Prop:=Dz Tryz.prog 156 #[.func (.yield l) #[] #[],.pointer (some cap0)] U R
def cI.yk:Hn:=.seq (.seq (.o 4) (.block (.loop [(3,.one bO)] (.seq (.seq (.o 5) (.cond (.leaf) (.leaf))) (.seq (.block (.seq (.leaf) (.cond (.leaf) (.leaf)))) (.o 3)))))) (.seq (.cU (.held true [] (.tk [0,1,2,3] (.all [(4,.take 5 (.take 6 (.done)))])))) (.block (.loop [(4,.one bO)] (.seq (.seq (.o 10) (.cond (.leaf) (.leaf))) (.seq (.block (.seq (.leaf) (.cond (.leaf) (.leaf)))) (.o 3))))))
def cI.xw (l:Nat)(cap0:Addr)(U:Hp)(R:aP):Prop:=
 gJ .i64 ((cap0.add 0).add 2) U λvw=>
 X8 [bO] (λI=>I vw U) λJ (vw1:Int) v=>
 gJ .i64 ((cap0.add 0).add 0) v λt11=>
 If (decide (vw1<t11)) (HN Tryz.prog l [.int .i64 vw1] v λmore v1=>
  If (!more) (R v1)
   (Ar .i64 (vw1+8) λvw2=>
   J vw2 v1))
  (dW v λS=>
  gN S bO ((cap0.add 0).add 0) λ(t21:Int)=>
  gN S bO (cap0.add 0) λ(t22:Int)=>
  gN S bO (cap0.add 1) λ(t221:Int)=>
  gN S bO (cap0.add 2) λ(t222:Int)=>
  gN S bO (cap0.add 3) λ(t223:Int)=>
  gN S bO (cap0.add 4) λ(t224:Int)=>
  XE.c t22 t221 t222 t223 t224 v λt23 v2=>
  And (S v2) <|
  Ar .i64 (t21+t23) λvw3=>
  X8 [bO] (λI1=>I1 vw3 v2) λJ1 (vw4:Int) v3=>
  Ar .i64 (vw4+8) λt26=>
  gJ .i64 ((cap0.add 0).add 2) v3 λt29=>
  gJ .i64 ((cap0.add 0).add 3) v3 λt32=>
  Ar .i64 (t29+t32) λt33=>
  If (decide (t26<=t33)) (HN Tryz.prog l [.int .i64 vw4] v3 λmore1 v4=>
   If (!more1) (R v4)
    (Ar .i64 (vw4+8) λvw5=>
    J1 vw5 v4))
   (R v3))
theorem cI.tZ {l:Nat}{cap0:Addr}{U:Hp}{R:aP}(hv:cI.xw l cap0 U R):cI.sB l cap0 U R:=
 Pv Tryz.func156 (x:=cI.yk) (args:=[.func (.yield l) #[] #[],.pointer (some cap0)]) (R:=R) (R0 hv)
def YI.h:Hn:=.q .o1 (.q (.q (.cU (.seq [.op,.op,.op,.cX false 8 (RI.ops 8)])) .aK) (.q (.q .o7 .aK) .aM))
def YI.v (a:R2)(b:Int)(c:Hp)(d:aN):Prop:=bX (λe f=>If e (d 1 f) (bG a 0 f λh=>YX.c h b f λi j=>If (!(i.toList==(ByteArray.mk #[]).toList)) (d 5 j) (d 0 j))) λk=>If (b<0) (k true c) (bG a 0 c λm=>XS.c m c λn o p q r s=>k (decide (b≥p)) s)
theorem YI.o {a b c d}(e:YI.v a b c d):YI.c a b c d:=Wa Tryz.func162 (x:=YI.h) (R0 e)
end Go.Proofs
namespace Go.Ar
open Go Go.Vc Go.Proofs
open Go.Vc (bU dA cO)
variable {U σ0 v w w':Hp}{F P Q X T:Rg}{L:dE}{H H':Hw}{held:List Pc}{s0 sp:Sp}{t n:Nat}{g:Th}{gb km fm m:Nat}
theorem gL {S:aP}{b i:Nat}{cs:List Value}{c:CK}{y:c.T}(hS:∀m,S m->bY m b cs)(hc:cs[i]?=some (c.v y)){K:c.T->Prop}(hK:K y):gN S c (Addr.add ⟨b,0,none⟩ i) K:=
 ⟨y,λm a=>by rw[add_lit,(hS m a).cell,zH];exact hc,hK⟩
theorem r6 {S:aP}{b:Nat}{cs:List Value}{c:CK}{y:c.T}(hS:∀m,S m->bY m b cs)(hc:cs[0]?=some (c.v y)){K:c.T->Prop}(hK:K y):gN S c ⟨b,0,none⟩ K:=
 ⟨y,λm a=>by rw[(hS m a).cell];exact hc,hK⟩
theorem px {S:aP}{b i j:Nat}{cs:List Value}{c:CK}{y:c.T}(hS:∀m,S m->bY m b cs)(hc:cs[i+j]?=some (c.v y)){K:c.T->Prop}(hK:K y):gN S c (Addr.add (Addr.add ⟨b,0,none⟩ i) j) K:=
 ⟨y,λm a=>by rw[add_lit,add_lit,(hS m a).cell,zH];exact hc,hK⟩
abbrev B5:=Int×Int×Int×Int×Int
def fD (b:B5):List Value:=[.int .i64 b.1,.int .i64 b.2.1,.int .i64 b.2.2.1,.int .i64 b.2.2.2.1,.int .i64 b.2.2.2.2]
def ZK (n:Int):Int:=(n+7)/8*8
structure gK (b:B5):Prop where
 s:1<=b.2.1/\b.2.1<=1024
 base:0<=b.2.2.1/\b.2.2.1%8=0
 z:16<=b.1-b.2.2.1/\b.1-b.2.2.1<=256/\b.1%8=0
 t:b.1+ZK b.2.1+16<=b.2.2.1+b.2.2.2.1/\b.2.2.2.1%8=0
 m:b.2.2.1+b.2.2.2.1<=270000
theorem Zm {n:Int}(h:0<=n):n<=ZK n/\ZK n<=n+7/\ZK n%8=0:=by unfold ZK;omega
structure Gu where
 kn:List (Int×B5)
 fr:List (Int×Bool)
 no:Int
def oM:Gu:=⟨[],[],0⟩
def VH (b:B5):Nat:=(b.1-b.2.2.1).toNat/8
def oy (b:B5):Nat:=(b.2.2.1+b.2.2.2.1-b.1-ZK b.2.1).toNat/8
def Zi (b:B5):List Int:=((List.range (VH b)).map λ(i:Nat)=>b.2.2.1+8*(i:Int))++(List.range (oy b)).map λ(i:Nat)=>b.1+ZK b.2.1+8*(i:Int)
theorem GD (b:B5):(Zi b).length=VH b+oy b:=by unfold Zi;simp
theorem WkB {b:B5}{i:Nat}(h:i<VH b):(Zi b)[i]?=some (b.2.2.1+8*(i:Int)):=by
 unfold Zi;rw[zd (by simpa using h)];simp[h]
theorem RN {b:B5}{i:Nat}(h:i<oy b):(Zi b)[VH b+i]?=some (b.1+ZK b.2.1+8*(i:Int)):=by
 unfold Zi;rw[zp aA];simp[h]
theorem HB {b:B5}(bi:gK b){z:Int}(hz:z∈Zi b):b.2.2.1<=z/\z%8=0/\z+8<=b.2.2.1+b.2.2.2.1/\(z+8<=b.1\/b.1+ZK b.2.1<=z):=by
 obtain⟨s,⟨r,d⟩,⟨u,p,g⟩,⟨t,a⟩,m⟩:=bi;have j:=Zm (n:=b.2.1) O;unfold Zi at hz;rcases zM.1 hz with h|h
 ·obtain⟨i,hi,rfl⟩:=zE.1 h;have:=zg.1 hi;unfold VH at this;exact⟨O,O,O,.inl O⟩
 ·obtain⟨i,hi,rfl⟩:=zE.1 h;have:=zg.1 hi;unfold oy at this;exact⟨O,O,O,.inr O⟩
def jA (z:Int):Int:=-z-1
def sS (hp km fm:Nat)(x:Gu):List Value:=[.pointer (some ⟨hp,0,none⟩),.map (some km),.map (some fm),.int .i64 x.no]
structure GP (σ0 U:Hp) (L:dE) (H:Hw) (held:List Pc) (s0:Sp) (P:Rg) (gb km fm:Nat) (x:Gu):Prop where
 e:aF σ0 U
 h:HH U P L H
 hi:HI H held s0
 cf:iU H
 pg:H.cf.aG<=128
 pP:∀b,P b->σ0.size<=b/\b<U.size
 r7:σ0.size<=gb/\¬P gb
 sD:σ0.size<=km/\¬P km
 tn:σ0.size<=fm/\¬P fm
 n1:gb≠km
 n2:gb≠fm
 n3:km≠fm
 b:bY U gb (sS L.p km fm x)
 m:dL U km .i64 (.ag 5) x.kn
 f:dL U fm .i64 .b x.fr
 g0:iX (λb=>σ0.size<=b)/\¬σ0.size<=1
variable {x y:Gu}
theorem GP.fr (p:GP σ0 U L H held s0 P gb km fm x)(e:aF U w):GP σ0 w L H held s0 P gb km fm x:=
 ⟨p.e.trans e,p.h.bP e,p.hi,p.cf,p.pg,λb a=>⟨(p.pP b a).1,by have:=(p.pP b a).2;have:=e.1;omega⟩,p.r7,p.sD,p.tn,p.n1,p.n2,p.n3,e.bV p.b id,e.fW p.m id,e.fW p.f id,p.g0⟩
theorem GP.out (p:GP σ0 U L H held s0 P gb km fm x)(e:Ext T U w)(hT:∀b,b<U.size->T b->¬P b/\b≠gb/\b≠km/\b≠fm/\σ0.size<=b):GP σ0 w L H held s0 P gb km fm x:=by
 have s:=e.1;have a:=p.b.lt;have r:=p.m.lt;have g:=p.f.lt;have i:Ext (λb=>T b/\b<U.size) U w:=⟨e.1,λb a g=>e.2 b a λd=>g ⟨d,a⟩⟩;refine⟨Ext.dX p.e i λb a=>.inr (hT b a.2 a.1).2.2.2.2,p.h.bS i (λb a j d=>(hT b a d.1).1 j) (λb a=>?_) (λa=>?_),p.hi,p.cf,p.pg,λb a=>⟨(p.pP b a).1,by have:=(p.pP b a).2;omega⟩,p.r7,p.sD,p.tn,p.n1,p.n2,p.n3,e.bV p.b λd=>(hT gb a d).2.1 rfl,e.fW p.m λd=>(hT km r d).2.2.1 rfl,e.fW p.f λd=>(hT fm g d).2.2.2.1 rfl,p.g0⟩
 ·exact p.g0.1 b (hT b a.2 a.1).2.2.2.2
 ·exact p.g0.2 (hT _ a.2 a.1).2.2.2.2
theorem GP.step (p:GP σ0 U L H held s0 P gb km fm x){ts':List eR}(e:Ext P U w)(h':HH w (Grow P U) {L with ts:=ts'} H'){held':List Pc}{s0':Sp}(hi':HI H' held' s0')(k:Q0 H' H) :
 GP σ0 w {L with ts:=ts'} H' held' s0' (Cut (Grow P U) w) gb km fm x:=by
 have u:=e.1;have a:=p.b.lt;have r:=p.m.lt;have j:=p.f.lt;have g:∀b,b<U.size->¬P b->¬Cut (Grow P U) w b:=λb d s i=>by
  rcases i.1 with h3|h3
  ·exact s h3
  ·omega
 refine⟨Ext.dX p.e e λb a=>.inr (p.pP b a).1,h'.cut,hi',p.cf.bS k,by rw[k.2.1];exact p.pg,λb a=>⟨?_,a.2⟩,⟨p.r7.1,g gb a p.r7.2⟩,⟨p.sD.1,g km r p.sD.2⟩,⟨p.tn.1,g fm j p.tn.2⟩,p.n1,p.n2,p.n3,e.bV p.b p.r7.2,e.fW p.m p.sD.2,e.fW p.f p.tn.2,p.g0⟩;have:=p.e.1;rcases a.1 with d|d
 ·exact(p.pP b d).1
 ·omega
theorem GP.fB (p:GP σ0 U L H held s0 P gb km fm x)(e:Ext (λb=>b=gb\/b=km\/b=fm) U w)(hb:bY w gb (sS L.p km fm y))(hm:dL w km .i64 (.ag 5) y.kn)(hf:dL w fm .i64 .b y.fr):GP σ0 w L H held s0 P gb km fm y:=by
 have i:=e.1;have a:∀b,(b=gb\/b=km\/b=fm)->σ0.size<=b/\¬P b:=λb hb=>by
  rcases hb with rfl|rfl|rfl
  ·exact p.r7
  ·exact p.sD
  ·exact p.tn
 exact⟨Ext.dX p.e e λb hb=>.inr (a b hb).1,p.h.bS e (λb _ d g=>(a b g).2 d) (λb hb=>p.g0.1 b (a b hb).1) (λhb=>p.g0.2 (a _ hb).1),p.hi,p.cf,p.pg,λb hb=>⟨(p.pP b hb).1,by have:=(p.pP b hb).2;omega⟩,p.r7,p.sD,p.tn,p.n1,p.n2,p.n3,hb,hm,hf,p.g0⟩
theorem Uo (p:GP σ0 U L H held s0 P gb km fm x){R:aO}(hR:R true U):W9.c (aW gb) U R:=by
 refine W9.o ?_;unfold W9.v;exact bX.intro (cF rfl (bL (p.b.rP rfl hR)))
theorem HJ (b:B5)(h0:0<=b.2.1)(h1:b.2.1<=1000000){R:aN}(hR:∀σ',aF U σ'->R (ZK b.2.1) σ'):XE.c b.1 b.2.1 b.2.2.1 b.2.2.2.1 b.2.2.2.2 U R:=by
 refine XE.o ?_;unfold XE.v;refine nw (cs:=fD b) λv d e a=>a.fE rfl (ar O O (ar O O (nz aB (ar (by rw[YS O];omega) (by rw[YS O];omega) ?_))));rw[YS O];refine ar O O ?_;have:(b.2.1+8-1)/8*8=ZK b.2.1:=by unfold ZK;omega
 rw[this];exact hR v e
theorem EG (z:Int)(h0:0<=z)(h1:z<=1000000){R:aN}(hR:R (jA z) U):Z7.c z U R:=by
 refine Z7.o ?_;unfold Z7.v;refine ar O O (ar O O ?_);have:0-z-1=jA z:=by unfold jA;omega
 rw[this];exact hR
theorem J8 (b:B5){R:Fv->Hp->Prop}(hR:∀σ',σ'.size=U.size+1->aF U σ'->bY σ' U.size (fD b)->R ⟨156,#[],#[.pointer (some ⟨U.size,0,none⟩)]⟩ σ'):X5.c b.1 b.2.1 b.2.2.1 b.2.2.2.1 b.2.2.2.2 U R:=by
 refine X5.o ?_;unfold X5.v;exact nw (cs:=fD b) λv d e a=>hR v d e a
theorem F0 {P:Program}{l:Nat}{args:List Value}{h:Hp}{R R':Bool->Hp->Prop}(hy:HN P l args h R)(hm:∀b w,R b w->R' b w):HN P l args h R':=λw p=>by
 obtain⟨d,a,g,j,m,s⟩:=hy w p;exact⟨d,a,g,j,m,s.mono λe x ⟨i,b,u,r⟩=>⟨i,b,u,hm _ _ r⟩⟩
theorem I9 {b:B5}(bi:gK b):xy Tryz.prog ⟨156,#[],#[.pointer (some ⟨n,0,none⟩)]⟩ ((Zi b).map (e1 bO)) (λs=>bY s n (fD b)):=by
 intro l J hst hKp hy h h0;obtain⟨s,⟨P,L⟩,⟨R,Q,M⟩,⟨t,K⟩,H⟩:=bi;have N:=Zm (n:=b.2.1) O;have G:(VH b:Int)*8=b.1-b.2.2.1:=by unfold VH;omega
 have F:(oy b:Int)*8=b.2.2.1+b.2.2.2.1-b.1-ZK b.2.1:=by unfold oy;omega
 show cI.sB l ⟨n,0,none⟩ h λC=>J ((Zi b).map (e1 bO)).length C;rw[zj,GD];refine cI.tZ ?_;unfold cI.xw;refine(hKp 0 h h0).fE rfl (Qz (a:=bO) (λ(z:Int) s=>∃i:Nat,z=b.2.2.1+8*(i:Int)/\i<=VH b/\J i s) (λz _=>(b.1-z).toNat) ⟨0,O,O,h0⟩ ?_);rintro(z:Int) s ⟨i,rfl,hi,hJ⟩;have B:=hKp i s hJ;refine B.fE rfl (cP (λx=>?_) λA=>?_)
 ·have d:i<VH b:=by omega
  have w:((Zi b).map (e1 bO))[i]?=some [Value.int .i64 (b.2.2.1+8*(i:Int))]:=by rw[zZ,WkB d];rfl
  refine F0 (hy i _ w s hJ) λD E ⟨g,j⟩=>?_;subst g;exact cD rfl (ar O O ⟨⟨i+1,O,O,j⟩,O⟩)
 ·have d:i=VH b:=by omega
  subst d;have p:∀m,aF s m->bY m n (fD b):=λm e=>e.bV B id;refine⟨λm=>aF s m,Ext.refl _ _,px (c:=bO) (y:=b.1) p rfl (gL (c:=bO) (y:=b.1) p rfl (gL (c:=bO) (y:=b.2.1) p rfl (gL (c:=bO) (y:=b.2.2.1) p rfl (gL (c:=bO) (y:=b.2.2.2.1) p rfl (gL (c:=bO) (y:=b.2.2.2.2) p rfl ?_)))))⟩;refine HJ b O O λs1 u=>⟨u,ar O O ?_⟩;refine Qz (a:=bO) (λ(z:Int) s=>∃i:Nat,z=b.1+ZK b.2.1+8*(i:Int)/\i<=oy b/\J (VH b+i) s) (λz _=>(b.2.2.1+b.2.2.2.1-z).toNat) ⟨0,O,O,hst _ _ _ hJ u⟩ ?_;rintro(z:Int) s2 ⟨i,rfl,hi,hJ2⟩;have r:=hKp _ s2 hJ2;refine ar O O (r.fE rfl (r.fE rfl (ar O O (cP (λx=>?_) λA=>?_))))
  ·have d:i<oy b:=by omega
   have w:((Zi b).map (e1 bO))[VH b+i]?=some [Value.int .i64 (b.1+ZK b.2.1+8*(i:Int))]:=by rw[zZ,RN d];rfl
   refine F0 (hy _ _ w s2 hJ2) λD E ⟨g,j⟩=>?_;subst g;exact cD rfl (ar O O ⟨⟨i+1,O,O,j⟩,O⟩)
  ·have d:i=oy b:=by omega
   subst d;exact hJ2
def UI (H:Hw)(b:B5):Bool:=!(Kx H b.2.2.1==some b.2.2.2.1)
theorem yA (p:GP σ0 U L H held s0 P gb km fm x)(b:B5){R:aO}(hR:∀σ',aF U σ'->R (UI H b) σ'):XC.c (aW gb) b.1 b.2.1 b.2.2.1 b.2.2.2.1 b.2.2.2.2 U R:=by
 refine XC.o ?_;unfold XC.v;refine nw (cs:=fD b) λv s e g=>?_;have j:=p.fr e;refine⟨λm=>aF v m,Ext.refl _ _,bL (gL (c:=.p) (y:=some ⟨L.p,0,none⟩) (λm e=>e.bV j.b id) rfl (px (c:=bO) (y:=b.2.2.1) (λm e=>e.bV g id) rfl (FU j.h b.2.2.1 λr e1=>?_)))⟩;have d:=e1.bV g id;have a:=hR r (e.trans e1);refine bX.intro ?_;cases hu:Kx H b.2.2.1 with
 | none=>
  unfold UI at a;rw[hu]at a;exact cF rfl a
 | some u=>
  unfold UI at a;rw[hu]at a;refine cD rfl (d.fE rfl ?_);have:(!(some u==some b.2.2.2.1))=((some u).getD 0 != b.2.2.2.1):=by simp[bne]
  rw[this]at a;exact a
def ZL (H:Hw)(thread:Int):Int:=if thread<0\/thread≥(H.cf.threads:Int)then 1 else if(UE H thread).isSome then 5 else 0
theorem MD (p:GP σ0 U L H held s0 P gb km fm x)(thread:Int){R:aN}(hR:∀σ',aF U σ'->R (ZL H thread) σ'):YI.c (aW gb) thread U R:=by
 refine YI.o ?_;unfold YI.v;refine Kr (λr u=>aF U u/\r=decide (thread<0\/thread≥(H.cf.threads:Int))) (λr u ⟨d,j⟩=>?_) λJ i=>?_
 ·by_cases hc:thread<0\/thread≥(H.cf.threads:Int)
  ·have a:=hR u d;unfold ZL at a;rw[zC hc]at a;exact cF (by rw[j];exact zI hc) a
  ·have g:=p.fr d;refine cD (by rw[j];exact zJ hc) (bL (g.b.rP rfl (J9 g.h thread λs m e2 y=>?_)));have a:=hR m (d.trans e2);unfold ZL at a;rw[zB hc]at a;rw[y];cases hp:UE H thread with
   | none=>rw[hp]at a;exact cD rfl a
   | some q=>rw[hp]at a;exact cF rfl a
 ·refine cP (λh=>i _ _ ⟨Ext.refl _ _,by rw[zI];exact .inl h⟩) λh=>bL (p.b.rP rfl (GC p.h λu e=>i _ _ ⟨e,?_⟩));rw[j0,decide_eq_true_iff,decide_eq_true_iff];exact⟨.inr,λw=>w.resolve_left h⟩
theorem L7 (h:HH U F L H)(hp:1<=H.cf.aG){R:aO}(hR:∀σ',aF U σ'->R true σ'):Q9.c (aW L.p) U R:=by
 refine Q9.o ?_;unfold Q9.v;refine bX.intro (cF rfl (GC h λw e=>?_));have:decide ((H.cf.aG:Int)>0)=true:=zI O;rw[this];exact hR w e
theorem Ia (e0:aF σ0 U)(h:HH U P L H)(hi:HI H held s0)(hc:iU H)(hpg:H.cf.aG<=128)(hP:∀b,P b->σ0.size<=b/\b<U.size)(hg:iX (λb=>σ0.size<=b)/\¬σ0.size<=1){R:Option Addr->Int->Hp->Prop}
 (hR:∀w gb km fm,aF U w->U.size<=gb/\U.size<=km/\U.size<=fm->GP σ0 w L H held s0 P gb km fm oM->R (some ⟨gb,0,none⟩) 0 w):Ke.c (aW L.p) U R:=by
 refine Ke.o ?_;unfold Ke.v;refine L7 h hc.1 λv e=>cD rfl (uh λi u e1 s=>uh λz A e2 x=>nw (cs:=sS L.p v.size i.size oM) λv3 m d r=>?_);have D:=e.1;have C:=e0.1;have a:=((e.trans e1).trans e2).trans d;have g:∀b,U.size<=b->¬P b:=λb B y=>by have:=(hP b y).2;omega
 exact hR v3 z.size v.size i.size a ⟨O,O,O⟩ ⟨e0.trans a,h.bP a,hi,hc,hpg,λb j=>⟨(hP b j).1,by have:=(hP b j).2;have:=a.1;omega⟩,⟨O,g _ O⟩,⟨O,g _ O⟩,⟨O,g _ O⟩,O,O,O,r,(e2.trans d).fW (s _ _) id,d.fW (x _ _) id,hg⟩
end Go.Ar
namespace Go.Ar
open Go Go.Vc Go.Proofs
open Go.Vc (bU dA cO)
variable {U σ0 v w w':Hp}{F P Q X T:Rg}{L:dE}{H H':Hw}{held:List Pc}{s0 sp:Sp}{t n:Nat}{g:Th}{gb km fm m:Nat}{x y:Gu}{b:B5}
def iI (sp:Sp)(l:List Int)(f:Int->Int):Sp:=l.foldl (λs z=>ZI s z (f z)) sp
theorem RD (sp:Sp)(z:Int)(l:List Int)(f:Int->Int):iI sp (z::l) f=iI (ZI sp z (f z)) l f:=rfl
theorem Du (sp:Sp)(l:List Int)(z:Int)(f:Int->Int):iI sp (l++[z]) f=ZI (iI sp l f) z (f z):=by unfold iI;rw[vn];rfl
theorem Hg {sp:Sp}{x:Nat}:eO sp ((8*x:Nat):Int)=0↔gf sp.st (x/32)≠0:=by
 unfold eO;rw[zB O,show((8*x:Nat):Int).toNat/256=x/32 by omega];unfold gf;split
 ·rename_i h;rw[h];simp
 ·rename_i h;exact⟨λ_=>h,λ_=>rfl⟩
theorem yR (sp:Sp)(x:Nat):Q1 sp ((8*x:Nat):Int)=if gf sp.st (x/32)≠0 then sp.wd x else 0:=by
 unfold Q1;by_cases h:gf sp.st (x/32)≠0
 ·rw[zC (Hg.2 h),zC h];congr 1;omega
 ·rw[zB (λa=>h (Hg.1 a)),zB h]
theorem yI (f:Int->Int):∀(l:List Int) (sp:Sp),(∀z∈l,0<=z/\z%8=0)->(iI sp l f).st.length=sp.st.length/\(∀p,gf (iI sp l f).st p=0↔gf sp.st p=0) ∧
 ∀w:Nat,(iI sp l f).wd w=if((8*w:Nat):Int)∈l/\gf sp.st (w/32)≠0 then f ((8*w:Nat):Int)else sp.wd w
 | [],sp,_=>⟨rfl,λ_=>Iff.rfl,λw=>by rw[zB aA];rfl⟩
 | z::l,sp,hl=>by
  obtain⟨i1,i2,i3⟩:=yI f l (ZI sp z (f z)) λz a=>hl z (mc _ a);obtain⟨m,b,d⟩:=Dr sp z (f z);have r:=hl z mO;obtain⟨zn,rfl⟩:∃c:Nat,z=((8*c:Nat):Int):=⟨z.toNat/8,O⟩;rw[RD];refine⟨i1.trans m,λp=>(i2 p).trans (b p),λw=>?_⟩;rw[i3,d];have a:=b (w/32);by_cases hm:gf sp.st (w/32)≠0
  ·by_cases hw:((8*w:Nat):Int)∈l
   ·rw[zC ⟨hw,λh=>hm (a.1 h)⟩,zC ⟨mc _ hw,hm⟩]
   ·rw[zB λh=>hw h.1];by_cases he:w=zn
    ·subst he;rw[zC ⟨Hg.2 hm,O⟩,zC ⟨mO,hm⟩]
    ·rw[zB λh=>he (by have:=h.2;omega),zB λh=>(zW.1 h.1).elim (λh=>he O) hw]
  ·have key:¬(eO sp ((8*zn:Nat):Int)=0/\w=((8*zn:Nat):Int).toNat/8):=λh=>by
    have g:=Hg.1 h.1;have j:w=zn:=by omega
    subst j;exact hm g
   rw[zB λh=>hm λi=>h.2 (a.2 i),zB key,zB λh=>hm h.2]
theorem HI.iI (f:Int->Int):∀(l:List Int) {H:Hw} {s0:Sp},HI H held s0->∃s0',HI {H with sp:=Go.Ar.iI H.sp l f} held s0'
 | [],H,s0,h=>⟨s0,h⟩
 | z::l,H,s0,h=>HI.iI f l (h.write z (f z))
theorem KO {f:Int->Int}{l:List Int}{sp:Sp}(hl:∀z∈l,0<=z/\z%8=0)(w:Nat):Q1 (iI sp l f) ((8*w:Nat):Int)=if((8*w:Nat):Int)∈l/\gf sp.st (w/32)≠0 then f ((8*w:Nat):Int)else Q1 sp ((8*w:Nat):Int):=by
 obtain⟨_,a,d⟩:=yI f l sp hl;rw[yR,yR];by_cases hm:gf sp.st (w/32)≠0
 ·rw[zC λh=>hm ((a _).1 h),d];by_cases hw:((8*w:Nat):Int)∈l
  ·rw[zC ⟨hw,hm⟩,zC ⟨hw,hm⟩]
  ·rw[zB λh=>hw h.1,zB λh=>hw h.1,zC hm]
 ·rw[zB λh=>hm λb=>h ((a _).2 b),zB λh=>hm h.2,zB hm]
def QI (b:B5):Nat:=(ZK b.2.1/8).toNat
def XR (b:B5):List Int:=(List.range (QI b)).map λ(i:Nat)=>b.1+8*(i:Int)
theorem H7 (bi:gK b){z:Int}(hz:z∈XR b):b.1<=z/\z%8=0/\z+8<=b.1+ZK b.2.1:=by
 obtain⟨s,⟨r,d⟩,⟨u,p,g⟩,⟨t,a⟩,m⟩:=bi;have j:=Zm (n:=b.2.1) O;obtain⟨i,hi,rfl⟩:=zE.1 hz;have:=zg.1 hi;unfold QI at this;omega
theorem GP.write (p:GP σ0 U L H held s0 P gb km fm x)(gc:Gc σ0)(z u:Int)(hz:z<=9223372036854775807){R:aN}
 (hR:∀w s0' P',Ext P U w->GP σ0 w L {H with sp:=ZI H.sp z u} held s0' P' gb km fm x->(∀c,P' c->P c\/U.size<=c)->R (eO H.sp z) w):XA.c (aW L.p) z u U R:=by
 refine LU p.h (gc.bP p.e) z u hz λw e a=>?_;exact hR w _ _ e (p.step (ts':=L.ts) e a (p.hi.write z u) ⟨rfl,rfl,rfl,rfl⟩) λc b=>b.1
theorem JM {D:Nat}{s:Hp}{K:aP}(h:s[D]?=some (.deferred (some [])))(hK:∀w,Ext (· = D) s w->K w):vv D s K:=
 ⟨h,hK _ ⟨by simp,λb d a=>by rw[Array.getElem?_setIfInBounds,zB λh=>a h.symm]⟩⟩
set_option maxRecDepth 8000 in
theorem EW (p:GP σ0 U L H held s0 P gb km fm x)(gc:Gc σ0)(bi:gK b)(val:Int){R:aP}
 (hR:∀w s0' P',Ext P U w->GP σ0 w L {H with sp:=iI H.sp (XR b) λ_=>val} held s0' P' gb km fm x->(∀c,P' c->P c\/U.size<=c)->R w):Yw.c (aW gb) b.1 b.2.1 b.2.2.1 b.2.2.2.1 b.2.2.2.2 val U R:=by
 obtain⟨⟨s1,s2⟩,⟨Y,Q⟩,⟨z1,Z,S⟩,⟨t,M⟩,K⟩:=bi;have V:=Zm (n:=b.2.1) O;have W:(QI b:Int)*8=ZK b.2.1:=by unfold QI;omega
 refine Yw.o ?_;unfold Yw.v;refine nw (cs:=fD b) λv N e B=>?_;refine Qz (a:=bO) (λ(z:Int) u=>∃(i:Nat) (s0':Sp) (P':Rg),z=8*(i:Int)/\i<=QI b/\Ext P v u/\bY u U.size (fD b)/\GP σ0 u L {H with sp:=iI H.sp ((List.range i).map λ(j:Nat)=>b.1+8*(j:Int)) λ_=>val} held s0' P' gb km fm x/\∀c,P' c->P c\/v.size<=c) (λz _=>(ZK b.2.1-z).toNat)
  ⟨0,s0,P,O,O,Ext.refl _ _,B,p.fr e,λc d=>.inl d⟩ ?_
 rintro(z:Int) u ⟨i,s0',P',rfl,hi,eu,hbu,pu,hP⟩;refine hbu.rI rfl (hbu.rI rfl (hbu.rI rfl (hbu.rI rfl (hbu.rI rfl (HJ b O O λC e1=>?_)))));have g:=e1.bV hbu id;have s:=pu.fr e1;refine cP (λD=>?_) λG=>?_
 ·refine bL (s.b.rP rfl (g.fE rfl (ar O O (s.write gc _ val O λX m P'' e2 E y=>?_))));have F:=e1.1;have J:=eu.1;refine ar O O ⟨⟨i+1,m,P'',O,O,Ext.dX (eu.gp e1) e2 hP,e2.bV g λA=>?_,?_,λc d=>?_⟩,O⟩
  ·rcases hP _ A with h|h
   ·have:=(p.pP _ h).2;omega
   ·omega
  ·rw[qO,zm,List.map_singleton,Du];exact E
  ·rcases y c d with h|h
   ·exact hP c h
   ·exact .inr O
 ·have r:i=QI b:=by omega
  subst r;refine hR C _ _ ((aF.to e).trans (eu.gp e1)) s λc d=>?_;have:=e.1;exact(hP c d).imp id λh=>by omega
def jO (sp:Sp)(z:Int):Bool:=eO sp z != 0||Q1 sp z != jA z
def QV (sp:Sp)(b:B5):List Int:=(Zi b).filter (jO sp)
set_option maxRecDepth 16000 in
theorem JX (p:GP σ0 U L H held s0 P gb km fm x)(bi:gK b){R:Sl->Hp->Prop}
 (hR:∀s w Q,aF U w->bT s 1 (Wx (QV H.sp b)) w Q->(∀c,Q c->U.size<=c/\c<w.size)->R s w):XL.c (aW gb) b.1 b.2.1 b.2.2.1 b.2.2.2.1 b.2.2.2.2 U R:=by
 refine XL.o ?_;unfold XL.v;refine nw (cs:=[.pointer (some ⟨gb,0,none⟩)]) λv1 hz1 e1 b1=>nw (cs:=fD b) λN hz2 e2 b2=>nw (cs:=[.slice none 0 0]) λv3 hz3 Y b3=>?_;have y:=Y.bV b2 id;have X:=(e2.trans Y).bV b1 id;refine y.rI rfl (y.rI rfl (y.rI rfl (y.rI rfl (y.rI rfl (J8 b λS hz4 e4 b4=>?_)))));have Z:=((e1.trans e2).trans Y).trans e4;have hzs:(Zi b).length<=100000:=by
  obtain⟨⟨s1,s2⟩,⟨b1,b2⟩,⟨z1,z2,z3⟩,⟨t,t2⟩,hm⟩:=bi;have hw:=Zm (n:=b.2.1) O;rw[GD];unfold VH oy;omega
 refine⟨rfl,by kernel_rfl,Zi b,_,λk s=>aF U s/\bY s U.size [.pointer (some ⟨gb,0,none⟩)]/\bY s v3.size (fD b)/\∃(sl:Sl) (Q:Rg),bY s N.size [.slice sl.a sl.len sl.cap]/\bT sl 1 (Wx (((Zi b).take k).filter (jO H.sp))) s Q/\∀c,Q c->S.size+2<=c/\c<s.size,I9 bi,?_,λk s h=>h.2.2.1,?_,?_,?_⟩
 ·rintro k s s' ⟨B,D,G,sl,Q,C,E,A⟩ e;have hz:=e.1;refine⟨Ext.dX B e λc d=>.inr O,e.bV D O,e.bV G O,sl,Q,e.bV C O,aI.bS E e λc _ hq d=>?_,λc d=>?_⟩
  ·have:=A c hq;omega
  ·have:=A c d;omega
 ·exact⟨Z,(e4).bV X id,b4,⟨none,0,0⟩,λ_=>False,e4.bV b3 id,⟨rfl,.inl ⟨rfl,rfl⟩⟩,λc d=>d.elim⟩
 ·rintro k z hk s ⟨B,D,G,sl,Q,C,E,A⟩ hsz;have zi:=HB bi (zG hk);have M:=bi.base;have hm:=bi.m;have hkl:=(cY.1 hk).1;have ps:=p.fr B;have K:(Zi b).take (k+1)=(Zi b).take k++[z]:=by rw[ka,hk];rfl
  refine D.qD rfl (bL (ps.b.rP rfl (Bv ps.h z O λv5 g=>?_)));have hz5:=g.1;refine Kr (λr u=>u=v5/\r=jO H.sp z) (λr u ⟨hu,hr⟩=>?_) λJ hJ=>?_
  ·subst hu;have F:=aI.bP E g;have i:∀c,Q c->c≠S.size/\c≠S.size+1/\c≠U.size/\c≠v3.size/\c≠N.size:=λc d=>by have:=A c d;omega
   refine cN (λM=>?_) λM=>?_
   ·refine(g.bV C id).vE rfl (xL F ?_ z λs' v8 W h8=>?_)
    ·have B:=pB (jO H.sp) ((Zi b).take k);rw[zY]at B;omega
    have hz8:=W.1;have aa:=W.bV (g.bV C id) λd=>(i _ d).2.2.2.2 rfl;refine aa.s0 aA λv9 o9 h9=>?_;have e9:=o9.ext;have hz9:=o9.1;have j:Ext (λc=>Q c\/c=N.size) u v9:=(W.sub λc d=>.inl d).trans (e9.sub λc d=>.inr d);refine⟨⟨Ext.dX (B.trans g) j λc d=>?_,j.bV (g.bV D id) ?_,j.bV (g.bV G id) ?_,s',λc=>Q c\/u.size<=c/\c<v8.size,h9,?_,λc d=>?_⟩,?_,?_⟩
    ·rcases d with d|d
     ·have:=A c d;exact .inr O
     ·exact .inr O
    ·rintro(d|d)
     ·exact(i _ d).2.2.1 rfl
     ·omega
    ·rintro(d|d)
     ·exact(i _ d).2.2.2.1 rfl
     ·omega
    ·have:((Zi b).take (k+1)).filter (jO H.sp)=((Zi b).take k).filter (jO H.sp)++[z]:=by
      rw[K,yv,vp (by rw[←hr];exact M)];rfl
     rw[this];refine aI.bS h8 e9 λc _ d (hx:c=N.size)=>?_;rcases d with d|d
     ·exact(i _ d).2.2.2.2 hx
     ·omega
    ·rcases d with d|d
     ·have:=A c d;omega
     ·omega
    ·rw[j.2 _ O (by rintro(d|d);exact(i _ d).1 rfl;omega)];exact g.2 _ O id
    ·rw[j.2 _ O (by rintro(d|d);exact(i _ d).2.1 rfl;omega)];exact g.2 _ O id
   ·refine⟨⟨B.trans g,g.bV D id,g.bV G id,sl,Q,g.bV C id,?_,λc d=>?_⟩,g.2 _ O id,g.2 _ O id⟩
    ·have:((Zi b).take (k+1)).filter (jO H.sp)=((Zi b).take k).filter (jO H.sp):=by
      rw[K,yv,wu (by rw[←hr,M];decide),List.filter_nil,kR]
     rw[this];exact F
    ·have:=A c d;omega
  ·refine cN (λh=>hJ _ _ ⟨rfl,by unfold jO;rw[h];rfl⟩) λh=>EG z O O (hJ _ _ ⟨rfl,by unfold jO;rw[h];rfl⟩)
 ·rintro s ⟨B,D,G,sl,Q,C,E,A⟩ hD;rw[lN]at E;refine C.vE rfl (JM hD λw V=>?_);have hz:=V.1;refine hR sl w Q (Ext.dX B V λc d=>.inr O) (aI.bS E V λc _ hq d=>?_) λc d=>?_
  ·have:=A c hq;omega
  ·have:=A c d;omega
end Go.Ar
namespace Go.Ar
open Go Go.Vc Go.Proofs
open Go.Vc (bU dA cO)
variable {U w w':Hp}{F P Q X:Rg}{L:dE}{H H':Hw}{held:List Pc}{s0:Sp}{t n:Nat}{g:Th}{σ0:Hp}{addrs:Sl}{ad:List Int}{l:Sl}{ds:List eW}
theorem gA.push (p:gA σ0 U L H held s0 P Q addrs ad){s':Sl}{x:Int}(e:Ext Q U w)(hr:bT s' 1 (Wx (ad++[x])) w (λb=>Q b\/U.size<=b/\b<w.size))(hl:(ad++[x]).length<=60):gA σ0 w L H held s0 P (λb=>Q b\/U.size<=b/\b<w.size) s' (ad++[x]):=by
 have j:=e.1;have i:=p.e.1;refine⟨Ext.dX p.e e λb a=>.inr (p.pQ b a).1,p.h.bS e (λb a d g=>(p.pQ b g).2.2 d) (λb a=>p.g0.1 b (p.pQ b a).1) (λa=>p.g0.2 (p.pQ _ a).1),p.hi,p.cf,p.pg,λb a=>⟨(p.pP b a).1,by have:=(p.pP b a).2;omega⟩,λb a=>?_,hr,hl,p.g0⟩;rcases a with a|a
 ·exact⟨(p.pQ b a).1,by have:=(p.pQ b a).2.1;omega,(p.pQ b a).2.2⟩
 ·exact⟨O,a.2,λd=>by have:=(p.pP b d).2;omega⟩
theorem Jj {tb:List cA}{size align:Int}{k:Nat}(h:gZ tb size align=some k):∃c,tb[k]?=some c/\size<=(c.size:Int)/\(c.size:Int)%align=0:=by
 unfold gZ at h;obtain⟨b,a,_⟩:=nI.1 h;simp only[zF,zV,zU]at a;exact⟨tb[k],cW b,a.1,a.2⟩
theorem Ov {tb:List cA}{size align:Int}(h:size<=16384/\Hi size align=true):size<=(oZ tb size align).1/\(oZ tb size align).2=0:=by
 unfold oZ;rw[zC h];refine⟨?_,rfl⟩;cases hc:gZ tb size align with
 | some k=>
  obtain⟨c,a,b,_⟩:=Jj hc;simp only;rw[zQ,a];exact b
 | none=>simp only;unfold Ai;omega
theorem Ck {live:List (Int×Bk)}{x:Int}(b:Bk):bU (dA live x b) x=some b:=by rw[US,zC rfl]
end Go.Ar
namespace Go.Ar
open Go Go.Vc Go.Proofs
open Go.Vc (bU dA cO)
open Go.Bu (fC VF Hu)
variable {size align:Int}{U σ0 v w w':Hp}{F P Q X T:Rg}{L:dE}{H H' H1:Hw}{held:List Pc}{s0 sp:Sp}{t n:Nat}{g:Th}{gb km fm m:Nat}{x y:Gu}{b:B5}
theorem _root_.Go.Vc.bY.s2 {U:Hp}{b o i j:Nat}{cs:List Value}(hb:bY U b cs){v:Value}(ho:o+i+j<cs.length){K:aP}(hK:∀h',Ka U h' b->bY h' b (cs.set (o+i+j) v)->K h'):dQ (Addr.add (Addr.add ⟨b,o,none⟩ i) j) v U K:=by
 rw[add_lit];exact hb.s1 ho hK
def Mg (P:Rg)(gb km fm:Nat):Rg:=λb=>P b\/b=gb\/b=km\/b=fm
def my (size align:Int):Bool:=decide (1<=size/\size<=1024/\1<=align/\align<=256)&&fC align
def zA (align:Int):Int:=if 16>align then 16 else align
theorem xE {align:Int}(h:align<=256):16<=zA align/\zA align<=256:=by unfold zA;split<;>omega
structure vP (H:Hw) (x:Gu) (size align:Int) (b:B5) (H1:Hw):Prop where
 me:rY H (zA align+ZK size+16) (zA align) H1 b.2.2.1 0
 a:b.1=b.2.2.1+zA align
 s:b.2.1=size
 u:Kx H1 b.2.2.1=some b.2.2.2.1
 n:b.2.2.2.2=x.no+1
 ok:my size align=true
 bi:gK b
def jS (sp:Sp)(b:B5):Sp:=iI (iI sp (Zi b) jA) (XR b) λ_=>0
def Gu.dZ (x:Gu)(b:B5):Gu:=⟨dA x.kn b.1 b,x.fr,x.no+1⟩
theorem C5 {a:Int}(h1:1<=a)(h2:a<=256)(hp:fC a=true):a%8=0\/a<8:=by
 by_cases h:a<8
 ·exact .inr h
 ·left;obtain⟨a,rfl⟩:=zc (show 0<=a by omega);rw[VF]at hp;have key:∀a:Nat,a<=256->8<=a->(a &&& (a-1)=0)->a%8=0:=by decide +kernel
  have:=key a O O (by have:=Hu (a:=a) O O;rw[hp]at this;simpa using this);omega
theorem N8 (hi:HI H1 held s0)(hok:my size align=true){base:Int}(me:rY H (zA align+ZK size+16) (zA align) H1 base 0):∃u,Kx H1 base=some u/\gK (base+zA align,size,base,u,x.no+1):=by
 unfold my at hok;rw[zF,zV]at hok;obtain⟨⟨j,k2,k3,k4⟩,kp⟩:=hok;have p:=xE k4;have r:=Zm (n:=size) O;rcases me with⟨h,_⟩|⟨_,hm,hok,cl,hl,hcl⟩
 ·exact absurd rfl h
 have g:Kx H1 base=some (oZ H.tb (zA align+ZK size+16) (zA align)).1:=by unfold Kx;rw[hl,Ck];rfl
 have i:=(Ov (tb:=H.tb) ⟨hok.2.1,hok.2.2⟩).1;obtain⟨s,d,b⟩:=oH.1 g;have a:=hi.pK (ZD d);simp only at a;rw[b]at a;have m:zA align%8=0:=by
  unfold zA;split
  ·decide
  ·rcases C5 k3 k4 kp with h|h
   ·exact h
   ·omega
 exact⟨_,g,⟨⟨j,k2⟩,⟨a.2.1,a.2.2.1⟩,⟨by simp only;omega,by simp only;omega,by simp only;omega⟩,⟨by simp only;omega,a.2.2.2.1⟩,by simp only;omega⟩⟩
set_option maxRecDepth 16000 in
theorem Mh (p:GP σ0 U L H held s0 P gb km fm x)(gc:Gc σ0)(x0:0<=x.no/\x.no<=100000)(thread size align:Int){R:Int->Int->Hp->Prop}
 (h0:∀w,my size align=false->aF U w->R 0 1 w)
 (h1:∀e w ts H' held' s0' P',my size align=true->e≠0->KM H thread 0 (zA align+ZK size+16) (zA align) 0 H' 0 e->fT H H'->H'.live=H.live->Ext P U w->GP σ0 w {L with ts:=ts} H' held' s0' P' gb km fm x->(∀c,P' c->P c\/U.size<=c)->R 0 e w)
 (h2:∀b w ts H1 held' s0' P',vP H x size align b H1->KM H thread 0 (zA align+ZK size+16) (zA align) 0 H1 b.2.2.1 0->fT H H1->Ext (Mg P gb km fm) U w->GP σ0 w {L with ts:=ts} {H1 with sp:=jS H1.sp b} held' s0' P' gb km fm (x.dZ b)->(∀c,P' c->P c\/U.size<=c)->R b.1 0 w) :
 Ya.c (aW gb) thread size align U R:=by
 refine Ya.o ?_;unfold Ya.v;rw[show(if(16:Int)>align then(16:Int)else align)=zA align from rfl]
 refine nw (cs:=[.pointer (some ⟨gb,0,none⟩)]) λv hz e hn4=>hn4.qD rfl (Uo (p.fr e) (cD rfl ?_));refine Kr (λr u=>u=v/\r = !decide (1<=size/\size<=1024)) (λr u ⟨hu,hr⟩=>?_) λJ hJ=>cP (λh=>hJ _ _ ⟨rfl,by rw[zJ O];rfl⟩) λh=>hJ _ _ ⟨rfl,?_⟩
 ·rw[hu];refine Kr (λr u=>u=v/\r = !decide (1<=size/\size<=1024/\1<=align)) (λr1 u1 ⟨hu1,hr1⟩=>?_) λJ1 hJ1=>?_
  ·rw[hu1];refine Kr (λr u=>u=v/\r = !decide (1<=size/\size<=1024/\1<=align/\align<=256)) (λr2 u2 ⟨hu2,hr2⟩=>?_) λJ2 hJ2=>?_
   ·rw[hu2];refine Kr (λr u=>u=v/\r = !my size align) (λr3 u3 ⟨hu3,hr3⟩=>?_) λJ3 hJ3=>?_
    ·rw[hu3];clear hr hr1 hr2 hu hu1 hu2 hu3;by_cases hgk:my size align=true
     ·refine cD (by rw[hr3,hgk];rfl) ?_;have hk:=hgk;unfold my at hk;rw[zF,zV]at hk;obtain⟨⟨k1,k2,k3,k4⟩,kp⟩:=hk;have hzz:=xE k4;have hww:=Zm (n:=size) O;refine nw (cs:=[.int .i64 0,.int .i64 0,.int .i64 0,.int .i64 0,.int .i64 0]) λv6 hz6 e6 b6=>?_;refine b6.s1 aA λv7 o7 b7=>b7.s1 aA λv8 o8 b8=>b8.s1 aA λv9 o9 b9=>b9.s1 aA λv10 gD b10=>b10.s1 aA λv11 o11 b11=>?_;have bb:bY v11 v.size (fD (0,size,0,0,0)):=b11;have eo:Ext (· = v.size) v6 v11:=(((o7.ext.trans o8.ext).trans o9.ext).trans gD.ext).trans o11.ext;have e11:aF v v11:=Ext.fresh e6 eo λi (hi:i=v.size)=>by omega
      have p11:=(p.fr e).fr e11;have Q:=e11.bV hn4 id;have zv:U.size<v.size:=by omega
      have zb:=bb.lt;refine⟨λm=>bY m U.size [.pointer (some ⟨gb,0,none⟩)]/\bY m gb (sS L.p km fm x)/\bY m v.size (fD (0,size,0,0,0)),⟨Q,p11.b,bb⟩,?_⟩;refine r6 (c:=.p) (y:=some ⟨gb,0,none⟩) (λm K=>K.1) rfl (bL (gL (c:=.p) (y:=some ⟨L.p,0,none⟩) (λm K=>K.2.1) rfl ?_));refine gL (c:=bO) (y:=0) (λm K=>K.2.2) rfl (gL (c:=bO) (y:=size) (λm K=>K.2.2) rfl (gL (c:=bO) (y:=0) (λm K=>K.2.2) rfl (gL (c:=bO) (y:=0) (λm K=>K.2.2) rfl (gL (c:=bO) (y:=0) (λm K=>K.2.2) rfl ?_))));refine HJ (0,size,0,0,0) aC aC λv12 A=>⟨⟨A.bV Q id,A.bV p11.b id,A.bV bb id⟩,?_⟩;refine ar aC aC (ar aC aC ?_);have p12:=p11.fr A;have e012:=(e.trans e11).trans A;have z1112:=A.1;obtain⟨H',a,er,hw,o,me⟩:=RF p.hi thread (zA align+ZK size+16) (zA align);obtain⟨held',s0',hi'⟩:=o.hi;refine OD FD p12.h p12.cf.2.2 hw λv13 ts G h13=>?_;have B:=p12.step G h13 hi' o.kp;have z12:=e012.1;have z13:=G.1;have nP:∀c,U.size<=c->¬P c:=λc h1 h2=>by have:=(p.pP c h2).2;omega
      have M:=G.bV (A.bV Q id) (nP _ (zD _));have bb13:=G.bV (A.bV bb id) (nP _ O);refine⟨⟨M,G.bV p12.b p.r7.2,bb13⟩,?_⟩;generalize hP1:Cut (Grow P v12) v13=P1 at B;have E:∀c,P1 c->P c\/U.size<=c:=λc d=>by
       rw[←hP1]at d;exact d.1.imp id λh=>by omega
      have V:∀c,P1 c->c<v13.size:=λc d=>by rw[←hP1]at d;exact d.2
      have F:∀c,c<v12.size->¬P c->¬P1 c:=λc h1 h2 C=>by
       rw[←hP1]at C;rcases C.1 with h4|h4
       ·exact h2 h4
       ·omega
      have E13:Ext P U v13:=(aF.to e012).trans G;refine cN (λhne=>?_) λheq=>?_
      ·have hne':er≠0:=by simpa using hne
       rcases me with⟨_,ha,hl⟩|⟨h,_⟩
       ·subst ha;exact h1 er v13 ts H' held' s0' P1 hgk hne' hw o hl E13 B E
       ·exact absurd h hne'
      ·have he0:er=0:=by simpa using heq
       subst he0;obtain⟨u,hu,Z⟩:=N8 (x:=x) (size:=size) (align:=align) hi' hgk me;obtain⟨b,g⟩:∃b:B5,b=(a+zA align,size,a,u,x.no+1):=⟨_,rfl⟩;rw[←g]at Z;have hbs:=Z.base;have hbm:=Z.m;have hbz:=Z.z;have hbt:=Z.t;have hb1:b.1=a+zA align:=by rw[g]
       have hb2:b.2.1=size:=by rw[g]
       rw[hb2]at hbt;have W:b.2.2.1=a:=by rw[g]
       have hb4:b.2.2.2.1=u:=by rw[g]
       rw[W]at hbs;have gr:vP H x size align b H':=⟨by rw[W];exact me,by rw[hb1,W],by rw[g],by rw[W,hb4];exact hu,by rw[g],hgk,Z⟩;have hgb13:=B.b.lt;have hvg:v.size≠gb:=λh=>by have:=p.b.lt;omega
       have hsg:U.size≠gb:=λh=>by have:=p.b.lt;omega
       have hvk:v.size≠km:=λh=>by have:=p.m.lt;omega
       have hsk:U.size≠km:=λh=>by have:=p.m.lt;omega
       have hvf:v.size≠fm:=λh=>by have:=p.f.lt;omega
       refine M.qD rfl (bL (B.b.rI rfl (ar O O (bL (B.b.s1 (by simp[sS]) λX D b14=>?_)))));have p14:GP σ0 X {L with ts:=ts} H' held' s0' P1 gb km fm {x with no:=x.no+1}:=B.fB (D.ext.sub λc d=>.inl d) b14 (D.ext.fW B.m λ(h:km=gb)=>p.n1 h.symm) (D.ext.fW B.f λ(h:fm=gb)=>p.n2 h.symm);have hn14:=D.ext.bV M hsg;have bb14:=D.ext.bV bb13 hvg;refine hn14.qD rfl (bL (p14.b.rI rfl (ar O O ?_)));refine bb14.s1 (by simp[fD]) λv15 o15 b15=>b15.s2 (by simp[fD]) λv16 o16 b16=>b16.s2 (by simp[fD]) λv17 o17 b17=>?_;have e17:Ext (· = v.size) X v17:=(o15.ext.trans o16.ext).trans o17.ext;have hout:∀c,c<X.size->c=v.size->¬P1 c/\c≠gb/\c≠km/\c≠fm/\σ0.size<=c:=λc _ d=>by
        subst d;have:=p.e.1;exact⟨F _ O (nP _ O),hvg,hvk,hvf,O⟩
       have p17:=p14.out e17 hout;have hn17:=e17.bV hn14 (show ¬U.size=v.size by omega);refine hn17.qD rfl (bL (p17.b.rP rfl (FU p17.h a λv18 N=>?_)));rw[hu];refine(N.bV b17 id).s2 (by simp[fD]) λv19 o19 b19=>?_;have j:bY v19 v.size (fD b):=by rw[g];exact b19
       have p18:=p17.fr N;have z17:=o17.1;have z16:=o16.1;have z15:=o15.1;have z14:=D.1;have z18:=N.1;have z19:=o19.1;have p19:=p18.out o19.ext λc hc1 (d:c=v.size)=>by
        subst d;have:=p.e.1;exact⟨F _ O (nP _ O),hvg,hvk,hvf,O⟩
       have hn19:=o19.ext.bV (N.bV hn17 id) (show ¬U.size=v.size by omega);have E19:Ext (Mg P gb km fm) U v19:=by
        refine Ext.dX (((((E13.sub λc d=>.inl d).trans (D.ext.sub λc d=>.inr (.inl d))))):Ext (Mg P gb km fm) U X) (((e17.trans (aF.to N)).trans o19.ext):Ext (· = v.size) X v19) λc (d:c=v.size)=>.inr O
       refine j.rI rfl (j.rI rfl (j.rI rfl (j.rI rfl (j.rI rfl (J8 b λv20 hz20 S b20=>?_)))));have p20:=p19.fr S;have hn20:=S.bV hn19 id;have bb20:=S.bV j id;have z20:=S.1;have E20:Ext (Mg P gb km fm) U v20:=E19.gp S;refine⟨rfl,by kernel_rfl,Zi b,_,λk s=>Ext (Mg P gb km fm) U s/\v20.size<=s.size/\bY s U.size [.pointer (some ⟨gb,0,none⟩)]/\bY s v.size (fD b)/\bY s v19.size (fD b)/\∃(s0':Sp) (P':Rg),GP σ0 s {L with ts:=ts} {H' with sp:=iI H'.sp ((Zi b).take k) jA} held' s0' P' gb km fm {x with no:=x.no+1}/\∀c,P' c->P1 c\/v20.size+2<=c,I9 Z,?_,λk s h=>h.2.2.2.2.1,?_,?_,?_⟩
       ·rintro k s s' ⟨i1,i2,i3,i4,i5,s1',P',i6,i7⟩ es;have zs:=es.1;have nn:∀c,c<v20.size->¬(c=v20.size\/c=v20.size+1):=λc h=>by omega
        refine⟨Ext.dX i1 es λc d=>.inr O,O,es.bV i3 (nn _ O),es.bV i4 (nn _ O),es.bV i5 (nn _ O),s1',P',i6.out es λc _ d=>?_,i7⟩;have:=p.e.1;have g1:=p.b.lt;have g2:=p.m.lt;have g3:=p.f.lt;refine⟨λhx=>?_,O,O,O,O⟩;rcases i7 c hx with h|h
        ·have:=V c h;omega
        ·omega
       ·exact⟨E20,zD _,hn20,bb20,b20,s0',P1,p20,λc d=>.inl d⟩
       ·rintro k (z:Int) hk s ⟨i1,i2,i3,i4,i5,s1',P',i6,i7⟩ hsz;have zi:=HB Z (zG hk);have hzk:0<=z/\z<=1000000:=by
         have z1:=zi.1;have z2:=zi.2.2.1;have h0:=Z.base.1;omega
        have htk:(Zi b).take (k+1)=(Zi b).take k++[z]:=by rw[ka,hk];rfl
        have Y:∀c,c<v20.size+2->(¬P1 c)->¬P' c:=λc h1 h2 C=>(i7 c C).elim h2 λh=>by omega
        have q1:¬P1 U.size:=F _ O (nP _ (zD _));have q2:¬P1 v.size:=F _ O (nP _ O);have q3:∀c,v13.size<=c->¬P1 c:=λc h1 h2=>by have:=V c h2;omega
        refine⟨λm=>bY m U.size [.pointer (some ⟨gb,0,none⟩)]/\bY m gb (sS L.p km fm {x with no:=x.no+1}),⟨i3,i6.b⟩,r6 (c:=.p) (y:=some ⟨gb,0,none⟩) (λm h=>h.1) rfl (bL (gL (c:=.p) (y:=some ⟨L.p,0,none⟩) (λm h=>h.2) rfl ?_))⟩;refine EG z hzk.1 hzk.2 ⟨⟨i3,i6.b⟩,?_⟩;refine i6.write gc z (jA z) O λs2 s2' P2 e2 p2 hP2=>?_;have zs2:=e2.1;have i3':=e2.bV i3 (Y _ O q1);refine⟨⟨i3',p2.b⟩,⟨Ext.dX i1 e2 λc d=>?_,O,i3',e2.bV i4 (Y _ O q2),e2.bV i5 (Y _ O (q3 _ O)),s2',P2,?_,λc d=>?_⟩,e2.2 _ O (Y _ O (q3 _ O)),e2.2 _ O (Y _ O (q3 _ O))⟩
        ·rcases i7 c d with h|h
         ·exact(E c h).imp .inl id
         ·exact .inr O
        ·rw[htk,Du];exact p2
        ·rcases hP2 c d with h|h
         ·exact i7 c h
         ·exact .inr O
       ·rintro s ⟨i1,i2,i3,i4,i5,s1',P',i6,i7⟩ hD;rw[lN]at i6;have Y:∀c,c<v20.size+2->(¬P1 c)->¬P' c:=λc h1 h2 C=>(i7 c C).elim h2 λh=>by omega
        have q1:¬P1 U.size:=F _ O (nP _ (zD _));have q2:¬P1 v.size:=F _ O (nP _ O);have q3:∀c,v13.size<=c->¬P1 c:=λc h1 h2=>by have:=V c h2;omega
        refine i3.qD rfl (i4.rI rfl (i4.rI rfl (i4.rI rfl (i4.rI rfl (i4.rI rfl (EW i6 gc Z 0 λs2 s2' P2 e2 p2 hP2=>?_))))));have zs2:=e2.1;have hlt:=(jY.1 hD).1;have i3':=e2.bV i3 (Y _ O q1);have i4':=e2.bV i4 (Y _ O q2);have hS:∀m,(bY m U.size [.pointer (some ⟨gb,0,none⟩)]/\bY m gb (sS L.p km fm {x with no:=x.no+1})/\bY m v.size (fD b))->bY m v.size (fD b):=λm h=>h.2.2;refine⟨λm=>bY m U.size [.pointer (some ⟨gb,0,none⟩)]/\bY m gb (sS L.p km fm {x with no:=x.no+1})/\bY m v.size (fD b),⟨i3',p2.b,i4'⟩,r6 (c:=.p) (y:=some ⟨gb,0,none⟩) (λm h=>h.1) rfl (bL (gL (c:=.m) (y:=some km) (λm h=>h.2.1) rfl ?_))⟩;refine px (c:=bO) (y:=b.1) hS rfl (gL (c:=bO) (y:=b.1) hS rfl (gL (c:=bO) (y:=b.2.1) hS rfl (gL (c:=bO) (y:=b.2.2.1) hS rfl (gL (c:=bO) (y:=b.2.2.2.1) hS rfl (gL (c:=bO) (y:=b.2.2.2.2) hS rfl ⟨km,x.kn,rfl,p2.m,λs3 o3 m3=>?_⟩)))));have p3:GP σ0 s3 {L with ts:=ts} {H' with sp:=jS H'.sp b} held' s2' P2 gb km fm (x.dZ b):=p2.fB (y:=x.dZ b) (o3.ext.sub λc d=>.inr (.inl d)) (o3.ext.bV p2.b p.n1) m3 (o3.ext.fW p2.f λ(h:fm=km)=>p.n3 h.symm);have zs3:=o3.1;have hkm:=p.m.lt;have hfm:=p.f.lt;have hgb:=p.b.lt;have hD3:s3[v20.size]?=some (.deferred (some [])):=(o3.2 _ O).trans ((e2.2 _ hlt (Y _ O (q3 _ O))).trans hD);refine(o3.ext.bV i4' hvk).fE rfl (JM hD3 λs4 e4=>?_);have hP2':∀c,P2 c->P c\/U.size<=c:=λc d=>by
         rcases hP2 c d with h|h
         ·rcases i7 c h with h|h
          ·exact E c h
          ·exact .inr O
         ·exact .inr O
        refine h2 b s4 ts H' held' s2' P2 gr (by rw[W];exact hw) o ?_ (p3.out e4 λc _ (d:c=v20.size)=>?_) hP2'
        ·have E1:Ext (Mg P gb km fm) U s2:=Ext.dX i1 e2 λc d=>by
          rcases i7 c d with h|h
          ·exact(E c h).imp .inl id
          ·exact .inr O
         have E2:Ext (Mg P gb km fm) U s3:=E1.trans (o3.ext.sub λc d=>.inr (.inr (.inl d)));exact Ext.dX E2 e4 λc (d:c=v20.size)=>.inr O
        ·subst d;have:=p.e.1;refine⟨λhx=>?_,O,O,O,O⟩;rcases hP2 _ hx with h|h
         ·exact Y _ O (q3 _ O) h
         ·omega
     ·exact cF (by rw[hr3];simp[hgk]) (h0 v (by simpa using hgk) e)
    ·by_cases g:1<=size/\size<=1024/\1<=align/\align<=256
     ·refine cD (by rw[hr2,zI g];rfl) (ar O O (hJ3 _ _ ⟨rfl,?_⟩));rw[M0 g.2.2.1 g.2.2.2];unfold my;rw[zI g];rfl
     ·refine cF (by rw[hr2,zJ g];rfl) (hJ3 _ _ ⟨rfl,?_⟩);unfold my;rw[zJ g];rfl
   ·by_cases g:1<=size/\size<=1024/\1<=align
    ·refine cD (by rw[hr1,zI g];rfl) (hJ2 _ _ ⟨rfl,?_⟩);by_cases C:align>256
     ·rw[zI C,zJ O];rfl
     ·rw[zJ C,zI O];rfl
    ·exact cF (by rw[hr1,zJ g];rfl) (hJ2 _ _ ⟨rfl,by rw[zJ O];rfl⟩)
  ·by_cases g:1<=size/\size<=1024
   ·refine cD (by rw[hr,zI g];rfl) (hJ1 _ _ ⟨rfl,?_⟩);by_cases C:align<1
    ·rw[zI C,zJ O];rfl
    ·rw[zJ C,zI O];rfl
   ·exact cF (by rw[hr,zJ g];rfl) (hJ1 _ _ ⟨rfl,by rw[zJ O];rfl⟩)
 ·by_cases C:size>1024
  ·rw[zI C,zJ O];rfl
  ·rw[zJ C,zI O];rfl
end Go.Ar
namespace Go.Ar
open Go Go.Vc Go.Proofs Go.RowKit Go.Sort Go.Shelf Go.Lib
variable {U:Hp}{F Q:Rg}{s:Sl}{xs:List Int}
end Go.Ar
namespace Go.Ar
open Go Go.Vc Go.Proofs
open Go.Vc (bU dA cO)
variable {size align:Int}{U σ0 v w w':Hp}{F P Q X T:Rg}{L:dE}{H H' H1:Hw}{held:List Pc}{s0 sp:Sp}{t n:Nat}{g:Th}{gb km fm m:Nat}{x y:Gu}{b:B5}
def HX:Int:=-1234567
def l6 (H:Hw)(x:Gu)(thread addr:Int)(whole:Bool):Int:=
 if ZL H thread≠0 then ZL H thread else match bU x.kn addr with
 | none=>if(bU x.fr addr).getD false then 9 else 8
 | some b=>if UI H b then 5 else if whole&&decide (0<(QV H.sp b).length)then 10 else 0
def Gu.gone (x:Gu)(addr:Int):Gu:=⟨cO x.kn addr,dA x.fr addr true,x.no⟩
def dO (H:Hw)(b:B5):Hw:={H with sp:=iI H.sp (XR b) λ_=>HX}
set_option maxRecDepth 16000 in
theorem Fp (p:GP σ0 U L H held s0 P gb km fm x)(gc:Gc σ0)(xi:∀e∈x.kn,e.1=e.2.1/\gK e.2)(thread addr:Int)(whole:Bool){R:aN}
 (h0:∀w,l6 H x thread addr whole≠0->aF U w->R (l6 H x thread addr whole) w)
 (h1:∀b w ts H1 held' s0' P' e,bU x.kn addr=some b->l6 H x thread addr whole=0->KM (dO H b) thread 1 0 0 b.2.2.1 H1 0 e->fT (dO H b) H1->nO (dO H b) thread b.2.2.1 H1 e->Ext (Mg P gb km fm) U w->GP σ0 w {L with ts:=ts} H1 held' s0' P' gb km fm (x.gone addr)->(∀c,P' c->P c\/U.size<=c)->R 0 w) :
 XV.c (aW gb) thread addr whole U R:=by
 refine XV.o ?_;unfold XV.v;refine Uo p (cD rfl (MD p thread λC e1=>?_));have p1:=p.fr e1;refine cN (λhne=>?_) λheq=>?_
 ·have hn:ZL H thread≠0:=by simpa using hne
  have he:l6 H x thread addr whole=ZL H thread:=by unfold l6;rw[zC hn]
  have:=h0 C (by rw[he];exact hn) e1;rw[he]at this;exact this
 have aa:ZL H thread=0:=by simpa using heq
 have a:l6 H x thread addr whole=match bU x.kn addr with
  | none=>if(bU x.fr addr).getD false then 9 else 8
  | some b=>if UI H b then 5 else if whole&&decide (0<(QV H.sp b).length)then 10 else 0:=by
  unfold l6;rw[zB (by rw[aa];decide)]
 refine bL (p1.b.rM rfl ⟨x.kn,p1.m,?_⟩);refine nw (cs:=[.int .i64 0,.int .i64 0,.int .i64 0,.int .i64 0,.int .i64 0]) λv2 hz2 e2 b2=>b2.s1 aA λv3 o3 b3=>b3.s1 aA λv4 o4 b4=>b4.s1 aA λv5 o5 b5=>b5.s1 aA λv6 o6 b6=>b6.s1 aA λv7 o7 b7=>?_;have eo:Ext (· = C.size) v2 v7:=(((o3.ext.trans o4.ext).trans o5.ext).trans o6.ext).trans o7.ext;have e17:aF C v7:=Ext.fresh e2 eo λi (hi:i=C.size)=>by omega
 have D:=e1.trans e17;have p7:=p.fr D;have d:bY v7 C.size (fD ((bU x.kn addr).getD (0,0,0,0,0))):=b7;cases hk:bU x.kn addr with
 | none=>
  rw[hk]at a;simp only at a;refine Kr (λr u=>u=v7/\r=(bU x.fr addr).getD false) (λr u ⟨hu,G⟩=>?_) λJ N=>cF rfl (bL (p7.b.rM rfl ⟨x.fr,p7.f,N _ _ ⟨rfl,rfl⟩⟩));rw[hu];refine cN (λh=>?_) λh=>cF rfl ?_
  ·rw[←G,h]at a;have:=h0 v7 (by rw[a];decide) D;rw[a]at this;exact this
  ·rw[←G,h]at a;have:=h0 v7 (by rw[a];decide) D;rw[a]at this;exact this
 | some b=>
  rw[hk]at a d;simp only at a;have d:bY v7 C.size (fD b):=d;have K:gK b:=(xi _ (ZD hk)).2;refine Kr (λr u=>u=v7/\r=false) (λr u ⟨hu,G⟩=>?_) λJ N=>cD rfl (N _ _ ⟨rfl,rfl⟩);rw[hu];refine cD G (cD rfl (d.rI rfl (d.rI rfl (d.rI rfl (d.rI rfl (d.rI rfl (yA p7 b λv9 e9=>?_)))))));have E:=D.trans e9;have p9:=p.fr E;have j:=e9.bV d id;refine cN (λZ=>?_) λZ=>?_
  ·rw[zC Z]at a;have:=h0 v9 (by rw[a];decide) E;rw[a]at this;exact this
  rw[zB (by rw[Z];decide)]at a;refine Kr (λr u=>aF U u/\bY u C.size (fD b)/\r=(whole&&decide (0<(QV H.sp b).length))) (λr u ⟨F,A,G⟩=>?_) λJ N=>cN (λM=>?_) λM=>N _ _ ⟨E,j,by rw[M];rfl⟩
  ·refine cN (λh=>?_) λh=>?_
   ·rw[←G,zC h]at a;have:=h0 u (by rw[a];decide) F;rw[a]at this;exact this
   ·rw[←G,zB (by rw[h];decide)]at a;have pu:=p.fr F;have zu:=F.1;have z1:=e1.1;refine A.rI rfl (A.rI rfl (A.rI rfl (A.rI rfl (A.rI rfl (EW pu gc K (-1234567) λu1 S P1 ef V Y=>?_)))));have nP:¬P C.size:=λhx=>by have:=(p.pP _ hx).2;omega
    have hb1:=ef.bV A nP;have zf:=ef.1;refine bL (V.b.rM rfl ⟨x.kn,V.m,λu2 o2 _ m2=>?_⟩);have o2:=o2 km rfl;have X:GP σ0 u2 L (dO H b) held S P1 gb km fm ⟨cO x.kn addr,x.fr,x.no⟩:=V.fB (y:=⟨cO x.kn addr,x.fr,x.no⟩) (o2.ext.sub λc g=>.inr (.inl g)) (o2.ext.bV V.b p.n1) m2 (o2.ext.fW V.f λ(h:fm=km)=>p.n3 h.symm);refine bL (X.b.rM rfl ⟨fm,x.fr,rfl,X.f,λu3 B m3=>?_⟩);have W:GP σ0 u3 L (dO H b) held S P1 gb km fm (x.gone addr):=X.fB (y:=x.gone addr) (B.ext.sub λc g=>.inr (.inr g)) (B.ext.bV X.b p.n2) (B.ext.fW X.m p.n3) m3;have hkm:=p.m.lt;have hfm:=p.f.lt;have hb3:=B.ext.bV (o2.ext.bV hb1 (show ¬C.size=km by omega)) (show ¬C.size=fm by omega);obtain⟨H',er,M,o,fe⟩:=Sf W.hi thread b.2.2.1 (by have:=K.base;have:=K.m;have:=K.t;have:=K.z;have:=K.s;have:=Zm (n:=b.2.1) O;unfold iN;omega);obtain⟨held',s0',hi'⟩:=o.hi;refine bL (W.b.rP rfl (hb3.fE rfl (R3 FD W.h W.cf.2.2 M λu4 ts e4 h4=>?_)));have p5:=W.step e4 h4 hi' o.kp;have z2:=o2.1;have z3:=B.1;have z4:=e4.1;refine h1 b u4 ts H' held' s0' _ er hk a M o fe ?_ p5 λc g=>?_
    ·have E1:Ext (Mg P gb km fm) U u1:=(aF.to F).trans (ef.sub λc g=>.inl g);have E3:Ext (Mg P gb km fm) U u3:=(E1.trans (o2.ext.sub λc g=>.inr (.inr (.inl g)))).trans (B.ext.sub λc g=>.inr (.inr (.inr g)));exact Ext.dX E3 e4 λc g=>(Y c g).imp .inl λh=>by omega
    ·rcases g.1 with g|g
     ·exact(Y c g).imp id λh=>by omega
     ·exact .inr O
  ·refine j.rI rfl (j.rI rfl (j.rI rfl (j.rI rfl (j.rI rfl (JX p9 K λs u Q F hs hQ=>N _ _ ⟨E.trans F,F.bV j id,?_⟩)))));have:s.len=(QV H.sp b).length:=by have:=hs.1;simp[Wx]at this;omega
   rw[M,this,se,j0,decide_eq_true_iff,decide_eq_true_iff];omega
def kU (H:Hw)(x:Gu)(addr:Int):Int:=match bU x.kn addr with
 | none=>8
 | some b=>if UI H b then 5 else 0
def vW (H:Hw)(x:Gu)(addr:Int):List Int:=match bU x.kn addr with
 | none=>[]
 | some b=>if UI H b then[]else QV H.sp b
set_option maxRecDepth 16000 in
theorem EA (p:GP σ0 U L H held s0 P gb km fm x)(xi:∀e∈x.kn,e.1=e.2.1/\gK e.2)(addr:Int){R:Sl->Int->Hp->Prop}
 (hR:∀s w Q,aF U w->bT s 1 (Wx (vW H x addr)) w Q->(∀c,Q c->U.size<=c/\c<w.size)->R s (kU H x addr) w):X2.c (aW gb) addr U R:=by
 refine X2.o ?_;unfold X2.v;refine Uo p (cD rfl (bL (p.b.rM rfl ⟨x.kn,p.m,?_⟩)));refine nw (cs:=[.int .i64 0,.int .i64 0,.int .i64 0,.int .i64 0,.int .i64 0]) λM G e2 A=>A.s1 aA λv3 o3 J=>J.s1 aA λY o4 b4=>b4.s1 aA λv5 o5 B=>B.s1 aA λZ o6 X=>X.s1 aA λv7 o7 F=>?_;have W:Ext (· = U.size) M v7:=(((o3.ext.trans o4.ext).trans o5.ext).trans o6.ext).trans o7.ext;have r:aF U v7:=Ext.fresh e2 W λi (hi:i=U.size)=>by omega
 have E:=p.fr r;have a:bY v7 U.size (fD ((bU x.kn addr).getD (0,0,0,0,0))):=F;have nil:∀w,bT ⟨none,0,0⟩ 1 (Wx []) w (λ_=>False):=λw=>⟨rfl,.inl ⟨rfl,rfl⟩⟩;unfold kU vW at hR;cases hk:bU x.kn addr with
 | none=>
  rw[hk]at hR;exact cF rfl (hR _ v7 _ r (nil _) λc h=>h.elim)
 | some b=>
  rw[hk]at a hR;simp only at hR;have a:bY v7 U.size (fD b):=a;have S:gK b:=(xi _ (ZD hk)).2;refine cD rfl (a.rI rfl (a.rI rfl (a.rI rfl (a.rI rfl (a.rI rfl (yA E b λV y=>?_))))));have g:=r.trans y;have D:=p.fr g;have d:=y.bV a id;refine cN (λj=>?_) λj=>?_
  ·rw[j]at hR;exact hR _ V _ g (nil _) λc h=>h.elim
  ·rw[j]at hR;refine d.rI rfl (d.rI rfl (d.rI rfl (d.rI rfl (d.rI rfl (JX D S λs u Q K N C=>?_)))));have:=g.1;exact hR s u Q (g.trans K) N λc z=>by have:=C c z;omega
def Iw (H:Hw)(e:Int×B5):List Int:=if UI H e.2 then[]else QV H.sp e.2
def JL (H:Hw)(x:Gu):List Int:=x.kn.flatMap (Iw H)
end Go.Ar
namespace Go.Proofs
open Go.Shelf
end Go.Proofs
namespace Go.Ar
open Go Go.Vc Go.Proofs Go.RowKit Go.Maps Go.Sort Go.Shelf
open Go.Vc (bU dA cO)
open Go.Bu (ld HM Uj HT VR AZ)
variable {U w w':Hp}{F P Q X S:Rg}{L:dE}{H H':Hw}{held:List Pc}{s0 sp:Sp}{t n:Nat}{g:Th}{σ0:Hp}
def lh (b:Bk):List Value:=[.int .i64 b.1,.int .i64 b.2.1,.int .i64 b.2.2.1,.int .i64 b.2.2.2]
def jB (bs:List Bk):List Value:=bs.flatMap lh
theorem CE (bs:List Bk):(jB bs).length=bs.length*4:=by
 unfold jB
 induction bs with
 | nil=>rfl
 | cons b bs ih=>rw[pA,zK,ih];simp[lh];omega
theorem B1:∀{bs:List Bk} {i:Nat} {b:Bk},bs[i]?=some b->∀{j:Nat} {v:Value},(lh b)[j]?=some v->(jB bs)[4*i+j]?=some v
 | [],i,b,h,_,_,_=>by simp at h
 | a::bs,0,b,h,j,v,hv=>by
  simp only[y5,Option.some.injEq]at h;subst h;have hj:=(cY.1 hv).1;show(lh a++jB bs)[4*0+j]?=_;rw[show 4*0+j=j by omega,zd hj];exact hv
 | a::bs,i+1,b,h,j,v,hv=>by
  have d:=B1 (bs:=bs) (i:=i) (b:=b) (by simpa using h) hv;show(lh a++jB bs)[4*(i+1)+j]?=_;rw[zp (by simp[lh];omega)];have:4*(i+1)+j-(lh a).length=4*i+j:=by simp[lh];omega
  rw[this];exact d
theorem cV.ub {B:Nat}{s:Sl}{xs:List Value}(h:ld B U s xs):cV s 1 xs U (λb=>B<=b):=by
 refine⟨by have:=h.1;omega,?_⟩;rcases h.2 with⟨h0,_⟩|⟨b,cs,hb,ha,hk,hc⟩
 ·exact .inl h0
 ·exact .inr ⟨b,0,cs,hb,ha,hk.q,λj a=>by rw[zH];exact hc j a⟩
theorem Cn {s:Sl}{bs:List Bk}(hs:cV s 4 (jB bs) U F){i:Nat}{b:Bk}(hb:bs[i]?=some b){K:Addr->Prop}(hK:∀bb o,(∀(j:Nat) v,(lh b)[j]?=some v->cell U ⟨bb,o+j,none⟩=some v)->K ⟨bb,o,none⟩):Ix s.a s.len (i:Int) 4 K:=by
 have r:=(cY.1 hb).1;have y:s.len=bs.length:=by have:=hs.1;rw[CE]at this;omega
 obtain⟨bb,o,g,x⟩:=hs.cell (B1 hb (j:=0) rfl);rw[g];refine ix O O ?_;rw[add_lit,dF];refine hK bb _ λj v m=>?_;obtain⟨u,w,d,p⟩:=hs.cell (B1 hb m);rw[g]at d;cases d;rw[←p];congr 2;omega
end Go.Ar
namespace Go.Proofs
open Go.Shelf
def Tryz.ik:Go.Shelf.Ren:=⟨fun|7=>67|10=>113|n=>n,fun|23=>72|26=>3|3=>106|28=>116|0=>0|27=>115|33=>118|4=>4|n=>n,fun|n=>n⟩
theorem Tryz.lx:Go.Proofs.SlLaysZI.n7 Tryz.prog Tryz.ik:={
 mixed:=by kernel_rfl
 f7:=⟨Tryz.f67.name,by decide,Tryz.func67.trans (congrArg some (by kernel_rfl))⟩
 f10:=⟨Tryz.f113.name,by decide,Tryz.func113.trans (congrArg some (by kernel_rfl))⟩
 t0:=Tryz.underlying0
 a0:=Tryz.isAgg0
 z0:=Tryz.sizeOf0
 v0:=Tryz.zeroValue0
 t4:=Tryz.underlying4
 a4:=Tryz.isAgg4
 z4:=Tryz.sizeOf4
 v4:=Tryz.zeroValue4
 t23:=Tryz.underlying72
 a23:=Tryz.isAgg72
 z23:=Tryz.sizeOf72
 v23:=Tryz.zeroValue72
 t26:=Tryz.underlying3
 a26:=Tryz.isAgg3
 z26:=Tryz.sizeOf3
 v26:=Tryz.zeroValue3
 t27:=Tryz.underlying115
 a27:=Tryz.isAgg115
 z27:=Tryz.sizeOf115
 v27:=Tryz.zeroValue115
 t28:=Tryz.underlying116
 a28:=Tryz.isAgg116
 z28:=Tryz.sizeOf116
 v28:=Tryz.zeroValue116
 t33:=Tryz.underlying118
 a33:=Tryz.isAgg118
 z33:=Tryz.sizeOf118
 v33:=Tryz.zeroValue118}
end Go.Proofs
namespace Go.Proofs
open Go.Vc
set_option maxRecDepth 100000
def XN.h:Hn:=.q .o1 (.q (.q .o5 .aK) (.q (.q .o1 (.k (.loop [(5,.I)] (.q (.q .o4 (.c .l .l)) (.q (.k (.q (.oq 9) .aK)) .o3))))) .aM))
def XN.v (a b:Sl)(c:Hp)(d:aO):Prop:=If (((a.len:Nat):Int) != ((b.len:Nat):Int)) (d false c) (X8 [bO] (λe=>e 0 c) λf (g:Int) h=>If (g<((a.len:Nat):Int)) (Ix a.a a.len g 1 λi=>bN i h λj=>Ix b.a b.len g 1 λk=>bN k h λl=>If (j != l) (d false h) (bM (g+1) λm=>f m h)) (d true h))
theorem XN.o {a b c d}(e:XN.v a b c d):XN.c a b c d:=Wa Tryz.func19 (x:=XN.h) (R0 e)
end Go.Proofs
namespace Go.Ar
open Go Go.Vc Go.Proofs Go.RowKit Go.Maps Go.Sort Go.Shelf
open Go.Vc (bU dA cO)
open Go.Bu (ld HM Uj HT VR AZ)
variable {size align:Int}{U σ0 v w w':Hp}{F P Q X T:Rg}{L:dE}{H H' H1:Hw}{held:List Pc}{s0 sp:Sp}{t n:Nat}{g:Th}{gb km fm m:Nat}{x y:Gu}{b:B5}
theorem C8 {k:IntKind}{c:CK}{l:List (Int×c.T)}{r:Nat}{a a':CK}{x0:a.T}{y0:a'.T}{A:a.T->a'.T->Hp->Prop}{body:Int->c.T->a.T->a'.T->Hp->(a.T->a'.T->Hp->Prop)->Prop}(hm:dL U r k c l)(I:List (Int×c.T)->a.T->a'.T->Hp->Prop)
 (h0:∀v,v.size=U.size+1->aF U v->I l x0 y0 v)
 (hend:∀z y v,I [] z y v->A z y v)
 (hstep:∀todo n x z y v v' (J:a.T->a'.T->Hp->Prop),I todo z y v->(n,x)∈todo->Ka v v' U.size->U.size<v.size->(∀z' y' w,w[U.size]?=v'[U.size]?->w[r]?=v'[r]?->I (todo.filter λy=>!(y.1==n)) z' y' w->J z' y' w)->body n x z y v' J) :
 oW k c (some r) U λit v3=>X8 [a,a'] (λI=>I x0 y0 v3) λJ1 z y v4=>pG k c it v4 (A z y v4) λ_ _ v5=>oO k c it v5 λkey1 val1=>body key1 val1 z y v5 J1:=by
 refine⟨l,hm,λv P Q hi=>?_⟩;have H:aF U v:=⟨O,λb s _=>Q b s⟩;refine Ux (a:=a) (bb:=a') (λz y w=>∃todo d,It w U.size k c (some r) l todo d/\I todo z y w/\U.size<w.size) (λ_ _ w=>xC w U.size r) ⟨l,none,hi,h0 v P H,O⟩ ?_;rintro z y w ⟨todo,d,i,F,C⟩;refine⟨rfl,some r,l,todo,d,i,λN=>?_,λn x E L G j=>?_⟩
 ·subst N;exact hend z y w F
 ·refine⟨rfl,some r,l,_,n,x,j,hstep todo n x z y w L _ F E G C λz' y' u B m p=>?_⟩;have g:=j.bS B m;refine⟨⟨_,_,g,p,?_⟩,?_⟩
  ·obtain⟨R,M,D,K,_⟩:=g;exact(jY.1 K).1
  ·rw[g.num,i.num];exact C7.2 ⟨(n,x),E,by simp⟩
def lX (ofV:B5->Int)(addr:Int)(b:B5):Prop:=b.1<=addr/\addr<b.1+ofV b
instance (ofV:B5->Int) (addr:Int) (b:B5):Decidable (lX ofV addr b):=by unfold lX;infer_instance
set_option maxRecDepth 16000 in
theorem Jy (p:GP σ0 U L H held s0 P gb km fm x)(xi:∀e∈x.kn,e.1=e.2.1/\gK e.2)(addr:Int){ofv:Fv}{ofV:B5->Int}(hov:∀b,gK b->0<=ofV b/\ofV b<=100000)
 (hof:∀(b:B5) (u:Hp) (K:aN),gK b->(∀u',aF u u'->K (ofV b) u')->VO Tryz.prog ofv [.agg #[.int .i64 b.1,.int .i64 b.2.1,.int .i64 b.2.2.1,.int .i64 b.2.2.2.1,.int .i64 b.2.2.2.2]] [.one bO] u K)
 {R:Int->Int->Int->Int->Int->Bool->Hp->Prop}
 (h0:∀(b:B5) w,aF U w->(∀e∈x.kn,¬lX ofV addr e.2)->R b.1 b.2.1 b.2.2.1 b.2.2.2.1 b.2.2.2.2 false w)
 (h1:∀e w,aF U w->e∈x.kn->lX ofV addr e.2->R e.2.1 e.2.2.1 e.2.2.2.1 e.2.2.2.2.1 e.2.2.2.2.2 true w) :
 Zx.c (aW gb) addr ofv U R:=by
 refine Zx.o ?_;unfold Zx.v;refine nw (cs:=fD (0,0,0,0,0)) λv hz e b6=>nw (cs:=fD (0,0,0,0,0)) λv1 hz1 e1 b8=>?_;have e01:=e.trans e1;have p1:=p.fr e01;refine bL (p1.b.rM rfl ?_);refine C8 (a:=.b) (a':=.b) p1.m (λg (d D:Bool) u=>aF U u/\v1.size<u.size/\bY u U.size (fD (0,0,0,0,0))/\(∀e∈g,e∈x.kn)/\∃iS:B5,bY u v.size (fD iS)/\(d=false->∀e∈x.kn,e∈g\/¬lX ofV addr e.2)/\(d=true->∃e∈x.kn,e.2=iS/\lX ofV addr e.2))
  (λu hu Y=>⟨e01.trans Y,O,Y.bV (e1.bV b6 id) id,λe F=>F,(0,0,0,0,0),Y.bV b8 id,λ_ e F=>.inl F,λh=>by cases h⟩) ?_ ?_
 ·rintro(d:Bool) (D:Bool) u ⟨Y,hlt,hb6,_,iS,C,hf0,ad⟩;refine C.rI rfl (C.rI rfl (C.rI rfl (C.rI rfl (C.rI rfl ?_))));refine hb6.s1 (by simp[fD]) λv3 o3 b3=>b3.s1 (by simp[fD]) λv4 o4 b4=>b4.s1 (by simp[fD]) λv5 o5 b5=>b5.s1 (by simp[fD]) λv6 o6 b6=>b6.s1 (by simp[fD]) λv7 o7 b7=>?_;have eo:Ext (· = U.size) u v7:=(((o3.ext.trans o4.ext).trans o5.ext).trans o6.ext).trans o7.ext;have e7:aF U v7:=Ext.fresh Y eo λi (hi:i=U.size)=>by omega
  have A:bY v7 U.size (fD iS):=b7;refine A.rI rfl (A.rI rfl (A.rI rfl (A.rI rfl (A.rI rfl ?_))));cases d with
  | false=>exact h0 iS v7 e7 λe F=>(hf0 rfl e F).resolve_left aA
  | true=>
   obtain⟨e,F,rfl,G⟩:=ad rfl;exact h1 e v7 e7 F G
 ·rintro g k (b:B5) (d:Bool) (D:Bool) u u' J ⟨Y,hlt,hb6,E,iS,C,hf0,ad⟩ N o1 hs1 hJ;have bi:gK b:=(xi _ (E _ N)).2;have ov:=hov b bi;have zu:=Y.1;have hz':=o1.1;have hbm:=bi.m;have hbz:=bi.z;have hbb:=bi.base;have hbt:=bi.t;have hbs:=bi.s;have hww:=Zm (n:=b.2.1) O;have af:aF U u':=Ext.fresh Y o1.ext λc (hc:c=v1.size)=>by omega
  have Z:=o1.ext.bV hb6 (show ¬U.size=v1.size by omega);have aa:=o1.ext.bV C (show ¬v.size=v1.size by omega);have hkm:=p.m.lt;refine nw (cs:=fD (0,0,0,0,0)) λv2 hz2 e2 b2=>b2.s1 (by simp[fD]) λv3 o3 b3=>b3.s1 (by simp[fD]) λv4 o4 b4=>b4.s1 (by simp[fD]) λv5 o5 b5=>b5.s1 (by simp[fD]) λv6 o6 b6=>b6.s1 (by simp[fD]) λv7 o7 b7=>?_;have eo:Ext (· = u'.size) v2 v7:=(((o3.ext.trans o4.ext).trans o5.ext).trans o6.ext).trans o7.ext;have e7:aF u' v7:=Ext.fresh e2 eo λi (hi:i=u'.size)=>by omega
  have A:bY v7 u'.size (fD b):=b7;have V:∀{w:Hp},aF u' w->w[v1.size]?=u'[v1.size]?/\w[km]?=u'[km]? := λe=>⟨e.2 _ O id,e.2 _ O id⟩;have S:∀e∈g.filter (λy=>!(y.1==k)),e∈x.kn:=λe F=>E e (zL.1 F).1;have hkb:∀e∈x.kn,e∈g->e∈g.filter (λy=>!(y.1==k))\/e=(k,b):=λe F ht=>by
   by_cases hk:e.1=k
   ·right;have h1:=Qd p.m.nodup (show(e.1,e.2)∈x.kn from F);have h2:=Qd p.m.nodup (E _ N);rw[hk,h2]at h1;exact Prod.ext hk (Option.some.inj h1).symm
   ·exact .inl (zL.2 ⟨ht,by simpa using hk⟩)
  have same:∀w,aF u' w->(d=false->¬lX ofV addr b)->J d D w:=λw ew hnb=>by
   have zw:=ew.1;refine hJ d D w (V ew).1 (V ew).2 ⟨af.trans ew,O,ew.bV Z id,S,iS,ew.bV aa id,λB e F=>?_,ad⟩;rcases hf0 B e F with h|h
   ·rcases hkb e F h with h|rfl
    ·exact .inl h
    ·exact .inr (hnb B)
   ·exact .inr h
  refine AX (λr u2=>aF u' u2/\bY u2 u'.size (fD b)/\r = !decide (lX ofV addr b)) (λr u2 ⟨ab,M,hr⟩=>?_) λJ1 hJ1=>?_
  ·by_cases G:lX ofV addr b
   ·refine cD (by rw[hr,zI G];rfl) ?_;have pu:=(p.fr af).fr ab;refine M.rI rfl (M.rI rfl (M.rI rfl (M.rI rfl (M.rI rfl (yA pu b λW e17=>?_)))));have E17:=ab.trans e17;have j:=e17.bV M id;have h617:=E17.bV Z id;have X:=E17.bV aa id;refine Kr (λr u3=>u3=W/\(d=false->r=true)) (λr u3 ⟨hu3,hr3⟩=>?_) λJ2 ae=>?_
    ·rw[hu3];refine Kr (λr1 u4=>u4=W/\(d=false->r1=true)) (λr1 u4 ⟨hu4,hr4⟩=>?_) λJ3 ac=>?_
     ·rw[hu4];refine cN (λh1=>?_) λh1=>same W E17 λB=>by rw[hr4 B]at h1;cases h1
      refine j.rI rfl (j.rI rfl (j.rI rfl (j.rI rfl (j.rI rfl ?_))));refine X.s1 (by simp[fD]) λw3 q3 c3=>c3.s1 (by simp[fD]) λw4 q4 c4=>c4.s1 (by simp[fD]) λw5 q5 c5=>c5.s1 (by simp[fD]) λw6 q6 c6=>c6.s1 (by simp[fD]) λw7 q7 c7=>?_;have qo:Ext (· = v.size) W w7:=(((q3.ext.trans q4.ext).trans q5.ext).trans q6.ext).trans q7.ext;have c7':bY w7 v.size (fD b):=c7;have z17:=E17.1;have zq:=qo.1;refine hJ true _ w7 ?_ ?_ ⟨Ext.fresh (af.trans E17) qo λc (hc:c=v.size)=>O,O,qo.bV h617 (show ¬U.size=v.size by omega),S,b,c7',λh=>(by cases h),λ_=>⟨(k,b),E _ N,rfl,G⟩⟩
      ·rw[qo.2 _ O (show ¬v1.size=v.size by omega)];exact(V E17).1
      ·rw[qo.2 _ O (show ¬km=v.size by omega)];exact(V E17).2
     ·refine cN (λh=>ac _ _ ⟨rfl,λ_=>rfl⟩) λh=>?_;have Q:¬d=false:=λB=>by rw[hr3 B]at h;cases h
      exact bX.intro (cN (λ_=>j.rI rfl (X.rI rfl (ac _ _ ⟨rfl,λB=>(Q B).elim⟩))) λ_=>ac _ _ ⟨rfl,λB=>(Q B).elim⟩)
    ·refine cN (λh=>ae _ _ ⟨rfl,λ_=>rfl⟩) λh=>?_;have Q:¬d=false:=λB=>by rw[B]at h;cases h
     exact bX.intro (cN (λ_=>ae _ _ ⟨rfl,λB=>(Q B).elim⟩) λ_=>ae _ _ ⟨rfl,λB=>(Q B).elim⟩)
   ·exact cF (by rw[hr,zJ G];rfl) (same u2 ab λ_=>G)
  ·have hS:∀m,aF v7 m->bY m u'.size (fD b):=λm e=>e.bV A id;refine⟨λm=>aF v7 m,Ext.refl _ _,px (c:=bO) (y:=b.1) hS rfl (cP (λh=>hJ1 _ _ ⟨e7,A,?_⟩) λh=>?_)⟩
   ·rw[zJ];rfl;rintro⟨h1,_⟩;exact absurd h O
   ·refine px (c:=bO) (y:=b.1) hS rfl (gL (c:=bO) (y:=b.1) hS rfl (gL (c:=bO) (y:=b.2.1) hS rfl (gL (c:=bO) (y:=b.2.2.1) hS rfl (gL (c:=bO) (y:=b.2.2.2.1) hS rfl (gL (c:=bO) (y:=b.2.2.2.2) hS rfl (hof b v7 _ bi λu3 e3=>⟨e3,ar O O (hJ1 _ _ ⟨e7.trans e3,e3.bV A id,?_⟩)⟩))))));rw[j0,mI,decide_eq_true_iff,decide_eq_false_iff_not];unfold lX;omega
theorem Ps (b:B5)(u:Hp)(K:aN)(bi:gK b)(hK:∀u',aF u u'->K (ZK b.2.1) u'):VO Tryz.prog ⟨98,#[],#[]⟩ [.agg #[.int .i64 b.1,.int .i64 b.2.1,.int .i64 b.2.2.1,.int .i64 b.2.2.2.1,.int .i64 b.2.2.2.2]] [.one bO] u K:=by
 have:=bi.s;refine GH (all := #[.agg #[.int .i64 b.1,.int .i64 b.2.1,.int .i64 b.2.2.1,.int .i64 b.2.2.2.1,.int .i64 b.2.2.2.2]]) (by kernel_rfl) aA ?_;exact HJ b O O hK
theorem Γ (b:B5)(u:Hp)(K:aN)(bi:gK b)(hK:∀u',aF u u'->K b.2.1 u'):VO Tryz.prog ⟨60,#[],#[]⟩ [.agg #[.int .i64 b.1,.int .i64 b.2.1,.int .i64 b.2.2.1,.int .i64 b.2.2.2.1,.int .i64 b.2.2.2.2]] [.one bO] u K:=by
 refine GH (all := #[.agg #[.int .i64 b.1,.int .i64 b.2.1,.int .i64 b.2.2.1,.int .i64 b.2.2.2.1,.int .i64 b.2.2.2.2]]) (by kernel_rfl) aA ?_;refine YY.o ?_;unfold YY.v;exact nw (cs:=fD b) λv d e a=>a.fE rfl (hK v e)
def Fb (addr:Int)(b:B5):Prop:=lX (λb=>ZK b.2.1) addr b
def CA (addr:Int)(b:B5):Prop:=lX (λb=>b.2.1) addr b
def qm (H:Hw)(x:Gu)(addr e:Int):Prop:=(e=7/\((∀k∈x.kn,¬Fb addr k.2)\/addr%8≠0))\/(∃k∈x.kn,Fb addr k.2/\addr%8=0/\e=if UI H k.2 then 5 else 0)
set_option maxRecDepth 16000 in
theorem EY (p:GP σ0 U L H held s0 P gb km fm x)(xi:∀e∈x.kn,e.1=e.2.1/\gK e.2)(addr:Int){R:aN}(hR:∀e w,aF U w->qm H x addr e->R e w):Yi.c (aW gb) addr U R:=by
 refine Yi.o ?_;unfold Yi.v;have E:∀b,gK b->0<=ZK b.2.1/\ZK b.2.1<=100000:=λb A=>by have:=A.s;have:=Zm (n:=b.2.1) O;omega
 have box:∀{ty:Nat} {w:Hp} {C G Q B N:Int} {K:Addr->Hp->Prop},(∀d,aF w d->bY d w.size (fD (C,G,Q,B,N))->K ⟨w.size,0,none⟩ d) →
  Nw (.cells #[.int .i64 0,.int .i64 0,.int .i64 0,.int .i64 0,.int .i64 0] ty (0,0)) w λm X=>dQ (m.add 0) (.int .i64 C) X λv3=>dQ (m.add 1) (.int .i64 G) v3 λV=>dQ (m.add 2) (.int .i64 Q) V λv5=>dQ (m.add 3) (.int .i64 B) v5 λv6=>dQ (m.add 4) (.int .i64 N) v6 λv7=>K m v7:=λ{ty w C G Q B N K} hK=>
  nw (cs:=fD (0,0,0,0,0)) λX hz2 e2 b2=>b2.s1 (by simp[fD]) λv3 o3 b3=>b3.s1 (by simp[fD]) λV o4 b4=>b4.s1 (by simp[fD]) λv5 o5 b5=>b5.s1 (by simp[fD]) λv6 o6 b6=>b6.s1 (by simp[fD]) λv7 o7 g=>
   hK v7 (Ext.fresh e2 ((((o3.ext.trans o4.ext).trans o5.ext).trans o6.ext).trans o7.ext) λi (hi:i=w.size)=>O) g
 refine Uo p (cD rfl (Jy p xi addr E Ps (λb w M hn=>?_) λk w M F j=>?_))
 ·refine box λd S g=>bX.intro (cF rfl (cF rfl (hR 7 d (M.trans S) (.inl ⟨rfl,.inl hn⟩))))
 ·refine box λd S g=>?_;have A:gK k.2:=(xi _ F).2;have h0:0<=addr:=by have:=j.1;have:=A.z;have:=A.base;omega
  have a:=M.trans S;refine Kr (λr u=>u=d/\r=decide (addr%8≠0)) (λr u ⟨hu,Y⟩=>?_) λJ hJ=>cD rfl (nz aB (hJ _ _ ⟨rfl,?_⟩))
  ·rw[hu];by_cases h8:addr%8≠0
   ·exact cF (by rw[Y];exact zI h8) (hR 7 d a (.inl ⟨rfl,.inr h8⟩))
   ·refine cD (by rw[Y];exact zJ h8) (g.rI rfl (g.rI rfl (g.rI rfl (g.rI rfl (g.rI rfl (yA (p.fr a) k.2 λZ W=>?_))))));have y:addr%8=0:=by omega
    refine cN (λD=>hR 5 Z (a.trans W) (.inr ⟨k,F,j,y,by rw[D];rfl⟩)) λD=>hR 0 Z (a.trans W) (.inr ⟨k,F,j,y,by rw[D];rfl⟩)
  ·rw[Kh h0];by_cases h8:addr%8=0
   ·rw[h8];decide
   ·rw[zI h8];simpa using h8
theorem Wkw (p:GP σ0 U L H held s0 P gb km fm x)(xi:∀e∈x.kn,e.1=e.2.1/\gK e.2)(addr:Int)(ha:addr<=9223372036854775807){R:Int->Int->Hp->Prop}(h0:∀e w,e≠0->aF U w->qm H x addr e->R 0 e w)(h1:∀w,aF U w->qm H x addr 0->R (Q1 H.sp addr) (eO H.sp addr) w):Y8.c (aW gb) addr U R:=by
 refine Y8.o ?_;unfold Y8.v;refine EY p xi addr λe w g i=>cN (λd=>h0 e w (by simpa using d) g i) λa=>?_;have m:e=0:=by simpa using a
 subst m;have j:=p.fr g;exact bL (j.b.rP rfl (Bv j.h addr ha λr e2=>h1 r (g.trans e2) i))
theorem κ (p:GP σ0 U L H held s0 P gb km fm x)(gc:Gc σ0)(xi:∀e∈x.kn,e.1=e.2.1/\gK e.2)(addr u:Int)(ha:addr<=9223372036854775807){R:aN}(h0:∀e w,e≠0->aF U w->qm H x addr e->R e w)
 (h1:∀w s0' P',qm H x addr 0->Ext P U w->GP σ0 w L {H with sp:=ZI H.sp addr u} held s0' P' gb km fm x->(∀c,P' c->P c\/U.size<=c)->R (eO H.sp addr) w):YD.c (aW gb) addr u U R:=by
 refine YD.o ?_;unfold YD.v;refine EY p xi addr λe w a m=>cN (λg=>h0 e w (by simpa using g) a m) λd=>?_;have s:e=0:=by simpa using d
 subst s;have j:=p.fr a;have A:=a.1;exact bL (j.b.rP rfl (j.write gc addr u ha λz s2 P2 e2 y i=>h1 z s2 P2 m ((aF.to a).trans e2) y λc r=>(i c r).imp id λh=>O))
set_option maxRecDepth 16000 in
theorem LI (p:GP σ0 U L H held s0 P gb km fm x)(xi:∀e∈x.kn,e.1=e.2.1/\gK e.2)(addr:Int){R:Int->Int->Int->Int->Int->Hp->Prop}(h0:∀w,aF U w->(∀k∈x.kn,¬CA addr k.2)->R 0 0 0 0 8 w)(h1:∀k w,aF U w->k∈x.kn->CA addr k.2->R k.2.1 k.2.2.1 k.2.2.2.1 k.2.2.2.2.1 0 w):XG.c (aW gb) addr U R:=by
 refine XG.o ?_;unfold XG.v;have N:∀b,gK b->0<=b.2.1/\b.2.1<=100000:=λb bi=>by have:=bi.s;omega
 refine nw (cs:=[.int .i64 0,.int .i64 0,.int .i64 0,.int .i64 0]) λv hz e b4=>?_;have j:∀{w:Hp} {a b c d:Int} {K:Int->Int->Int->Int->Hp->Prop},aF U w->bY w U.size [.int .i64 0,.int .i64 0,.int .i64 0,.int .i64 0]->(∀g,aF U g->K a b c d g) →
  dQ (Addr.add ⟨U.size,0,none⟩ 0) (.int .i64 a) w λv7=>dQ (Addr.add ⟨U.size,0,none⟩ 1) (.int .i64 b) v7 λv8=>dQ (Addr.add ⟨U.size,0,none⟩ 2) (.int .i64 c) v8 λv9=>dQ (Addr.add ⟨U.size,0,none⟩ 3) (.int .i64 d) v9 λv10=>
  gJ .i64 (Addr.add ⟨U.size,0,none⟩ 0) v10 λr0=>gJ .i64 (Addr.add ⟨U.size,0,none⟩ 1) v10 λr1=>gJ .i64 (Addr.add ⟨U.size,0,none⟩ 2) v10 λr2=>gJ .i64 (Addr.add ⟨U.size,0,none⟩ 3) v10 λr3=>K r0 r1 r2 r3 v10:=λm C M=>
  C.s1 aA λv1 o1 b1=>b1.s1 aA λG o2 J=>J.s1 aA λv3 o3 B=>B.s1 aA λA o4 b4=>b4.rI rfl (b4.rI rfl (b4.rI rfl (b4.rI rfl (M A ((((m.only o1 (.inr (zD _))).only o2 (.inr (zD _))).only o3 (.inr (zD _))).only o4 (.inr (zD _)))))))
 have box:∀{ty:Nat} {w:Hp} {F Q V E S:Int} {K:Addr->Hp->Prop},(∀y,aF w y->bY y w.size (fD (F,Q,V,E,S))->K ⟨w.size,0,none⟩ y) →
  Nw (.cells #[.int .i64 0,.int .i64 0,.int .i64 0,.int .i64 0,.int .i64 0] ty (0,0)) w λu G=>dQ (u.add 0) (.int .i64 F) G λv3=>dQ (u.add 1) (.int .i64 Q) v3 λA=>dQ (u.add 2) (.int .i64 V) A λZ=>dQ (u.add 3) (.int .i64 E) Z λY=>dQ (u.add 4) (.int .i64 S) Y λv7=>K u v7:=λ{ty w F Q V E S K} M=>
  nw (cs:=fD (0,0,0,0,0)) λG hz2 e2 J=>J.s1 (by simp[fD]) λv3 o3 B=>B.s1 (by simp[fD]) λA o4 b4=>b4.s1 (by simp[fD]) λZ o5 b5=>b5.s1 (by simp[fD]) λY o6 b6=>b6.s1 (by simp[fD]) λv7 o7 r=>
   M v7 (Ext.fresh e2 ((((o3.ext.trans o4.ext).trans o5.ext).trans o6.ext).trans o7.ext) λi (hi:i=w.size)=>O) r
 have X:=p.fr e;refine Uo X (cD rfl (Jy X xi addr N Γ (λb w m hn=>?_) λk w m hk D=>?_))
 ·refine box λy z r=>cF rfl (j (K:=λa b c d g=>R a b c d 8 g) ((e.trans m).trans z) ((m.trans z).bV b4 id) λg W=>h0 g W hn)
 ·refine box λy z r=>cD rfl (r.fE rfl (r.fE rfl (r.fE rfl (r.fE rfl ?_))));exact j (K:=λa b c d g=>R a b c d 0 g) ((e.trans m).trans z) ((m.trans z).bV b4 id) λg W=>h1 k g W hk D
theorem AG (p:GP σ0 U L H held s0 P gb km fm x){R:Option Addr->Hp->Prop}(hR:R (some ⟨L.p,0,none⟩) U):XD.c (aW gb) U R:=by
 refine XD.o ?_;unfold XD.v;exact Uo p (cD rfl (bL (p.b.rP rfl hR)))
end Go.Ar
namespace Go.Ar
open Go Go.Vc Go.Proofs
open Go.Vc (bU dA cO)
variable {size align:Int}{U σ0 v w w':Hp}{F P Q X T:Rg}{L:dE}{H H' H1:Hw}{held:List Pc}{s0 sp:Sp}{t n:Nat}{g:Th}{gb km fm m:Nat}{x y:Gu}{b:B5}
theorem iJ.yq {n m:Nat}{H H1 H2:Hw}{t:Nat}{p:Ph}{a1 e1 a2 e2:Int}(h:iJ n H t p H1 a1 e1)(h':iJ m H t p H2 a2 e2):H1=H2/\a1=a2/\e1=e2:=by
 induction h generalizing m with
 | done h1 h2=>
  cases h' with
  | done=>exact⟨rfl,rfl,rfl⟩
  | next _ h3 _=>rw[h2]at h3;cases h3
 | next h1 h2 _ ih=>
  cases h' with
  | done _ h3=>rw[h2]at h3;cases h3
  | next _ h3 h4=>rw[h2]at h3;cases h3;exact ih h4
theorem KM.yq {thread kind size align addr a1 e1 a2 e2:Int}{H1 H2:Hw}(h:KM H thread kind size align addr H1 a1 e1)(h':KM H thread kind size align addr H2 a2 e2):H1=H2/\a1=a2/\e1=e2:=by
 rcases h with⟨h1,_,rfl,rfl⟩|⟨t,p,n,h1,h2⟩
 ·rcases h' with⟨g1,_,rfl,rfl⟩|⟨_,_,_,g1,_⟩
  ·rw[h1]at g1;cases g1;exact⟨rfl,rfl,rfl⟩
  ·rw[h1]at g1;cases g1
 ·rcases h' with⟨g1,_⟩|⟨_,_,_,g1,g2⟩
  ·rw[h1]at g1;cases g1
  ·rw[h1]at g1;cases g1;exact h2.yq g2
theorem O8:uH w0 64:=by
 have h:=LD (xs:=re 8) (p:=64) (a:=1) (t:=1) (b:=1024) (r:=2) (Gy 8 aB aB) aB;rw[xM]at h;exact h
theorem OA {a:Option Addr}{thread addr:Int}{R:aN}(h:XV.c a thread addr true U R):Za.c a thread addr U R:=Za.o (by unfold Za.v;exact h)
theorem UR (H:Hw)(thread:Int):UE H thread=if 0<=thread/\thread<(H.bR.length:Int)then fF H thread.toNat else none:=by
 unfold UE fF;split
 ·cases H.bR[thread.toNat]?<;>rfl
 ·rfl
theorem Oz (o:fT H H')(thread:Int):ZL H' thread=ZL H thread:=by
 unfold ZL;rw[UR,UR,o.kp.2.1,o.kp.2.2.1,o.ph]
theorem IB {a b:Sl}{xs ys:List Int}{G:Rg}(ha:cV a 1 (Wx xs) U F)(hb:cV b 1 (Wx ys) U G)(hl:xs.length<=1000000000){R:aO}(hR:R (decide (xs=ys)) U):XN.c a b U R:=by
 refine XN.o ?_;unfold XN.v;have z:a.len=xs.length:=by have:=ha.1;simp[Wx]at this;omega
 have A:b.len=ys.length:=by have:=hb.1;simp[Wx]at this;omega
 rw[z,A,r5];refine cN (λs=>?_) λs=>?_
 ·have d:xs.length≠ys.length:=by simpa using s
  rw[zJ λe=>d (by rw[e])]at hR;exact hR
 have J:xs.length=ys.length:=by simpa using s
 refine Qz (a:=bO) (λ(t:Int) v=>∃i:Nat,t=(i:Int)/\i<=xs.length/\v=U/\xs.take i=ys.take i) (λt _=>xs.length-t.toNat) ⟨0,rfl,O,rfl,rfl⟩ ?_;rintro t v ⟨i,rfl,hi,rfl,j⟩;refine cP (λC=>?_) λE=>?_
 ·have w:i<xs.length:=by omega
  have g:xs[i]?=some xs[i]:=cW w;have p:ys[i]?=some (ys[i]' O):=cW _;generalize xs[i]=x at g;generalize ys[i]' O=y at p;rw[←z,←A];refine ha.lL g (hb.lL p (cN (λd=>?_) λu=>?_))
  ·have D:x≠y:=by simpa using d
   rw[zJ]at hR
   ·exact hR
   ·intro e;rw[e,p]at g;exact D (Option.some.inj g).symm
  ·have r:x=y:=by simpa using u
   refine cT (m:=i+1) O O ⟨⟨i+1,rfl,O,rfl,?_⟩,O⟩;rw[ka,ka,j,g,p,r]
 ·have H:i=xs.length:=by omega
  have:xs=ys:=by
   have B:=j;rw[lP O,lP O]at B;exact B
  rw[zI this]at hR;exact hR
def gm:Hw×Int×Int:=(UU w0 0 0 56 16 0).getD (w0,0,99)
theorem BM:gm.2=(4096,0):=by decide +kernel
theorem Dg:KM w0 0 0 56 16 0 gm.1 4096 0:=by
 have a:=BM;unfold gm at *;cases hw:UU w0 0 0 56 16 0 with
 | none=>rw[hw]at a;exact absurd (congrArg Prod.snd a) aB
 | some r=>
  rw[hw]at a;have:=IV hw;have e1:r.2=(4096,0):=a;rw[e1]at this;exact this
def gB:B5:=(4112,24,4096,64,1)
theorem Eg:Kx gm.1 4096=some 64:=by decide +kernel
def gX:Gu:=oM.dZ gB
def we:Hw:={gm.1 with sp:=jS gm.1.sp gB}
attribute [local irreducible] w0 gm we
end Go.Ar
namespace Go.Ar
open Go.Vc (bU dA cO)
variable {size align thread addr:Int}{H H' H1:Hw}{held held1:List Pc}{s0 s1 sp:Sp}{x y:Gu}{b:B5}
theorem Im {α:Type}{l:List (Int×α)}{n:Int}(h:bU l n=none)(v:α):dA l n v=l++[(n,v)]:=by
 unfold dA;rw[zB];intro hx;obtain⟨y,a,e⟩:=zy.1 hx;unfold bU at h;rw[sj,ox]at h;exact h y a e
theorem Gg {α:Type}{l:List (Int×α)}{n:Int}:bU l n=none↔∀e∈l,e.1≠n:=by
 unfold bU;rw[sj,ox];simp only[zU]
theorem UX {α β:Type}{f:α->β}:∀{l:List α},(l.map f).Nodup->∀{a b:α},a∈l->b∈l->f a=f b->a=b
 | [],_,_,_,h,_,_=>by simp at h
 | z::l,hn,a,b,ha,hb,e=>by
  simp only[zR,zr]at hn;rcases zW.1 ha with h1|h1
  ·rcases zW.1 hb with h2|h2
   ·rw[h1,h2]
   ·exact absurd (zE.2 ⟨b,h2,by rw[←e,h1]⟩) hn.1
  ·rcases zW.1 hb with h2|h2
   ·exact absurd (zE.2 ⟨a,h1,by rw[e,h2]⟩) hn.1
   ·exact UX hn.2 h1 h2 e
theorem Dw (h:HI H held s0){e:Int×Bk}(he:e∈H.live){w:Nat}(h1:e.1<=((8*w:Nat):Int))(h2:((8*w:Nat):Int)<e.1+e.2.2.1):gf H.sp.st (w/32)≠0:=by
 obtain⟨_,p,a,_,_,b,d,_⟩:=h.lv e he;have:=h.mapped a (x:=8*w) O O
 rwa [show 8*w/256=w/32 by omega]at this
structure dS (H:Hw) (x:Gu):Prop where
 live:H.live.map (λe=>(e.1,e.2.2.1))=x.kn.map (λe=>(e.2.2.2.1,e.2.2.2.2.1))
 can:∀e∈x.kn,∀z∈Zi e.2,Q1 H.sp z=jA z
 ph:∀j,fF H j=none
 i:∀e∈x.kn,e.1=e.2.1/\gK e.2
 nd:(x.kn.map (·.1)).Nodup
theorem IP (hi:HI H held s0){e e':Int×Bk}(he:e∈H.live)(he':e'∈H.live){z:Int}(h1:e.1<=z)(h2:z<e.1+e.2.2.1)(h3:e'.1<=z)(h4:z<e'.1+e'.2.2.1):e=e':=by
 obtain⟨_,p,b,_,_,g,j,_⟩:=hi.lv e he;obtain⟨_,q,a,_,_,d,i,_⟩:=hi.lv e' he';have:p=q:=hi.apart b a (x:=z.toNat) O O O O;subst this;exact UX hi.lk he he' (by rw[←g,←d])
theorem dS.of (g:dS H x){e:Int×B5}(he:e∈x.kn):∃l∈H.live,l.1=e.2.2.2.1/\l.2.2.1=e.2.2.2.2.1:=by
 have:(e.2.2.2.1,e.2.2.2.2.1)∈H.live.map (λe=>(e.1,e.2.2.1)):=by rw[g.live];exact zE.2 ⟨e,he,rfl⟩
 obtain⟨l,a,h⟩:=zE.1 this;simp only[Prod.mk.injEq]at h;exact⟨l,a,h.1,h.2⟩
theorem dS.tB (g:dS H x)(hi:HI H held s0):(x.kn.map λe=>e.2.2.2.1).Nodup:=by
 have a:=congrArg (List.map Prod.fst) g.live;rw[lK,lK]at a;have b:(x.kn.map λe=>e.2.2.2.1)=H.live.map (·.1):=a.symm;rw[b];exact hi.lk
theorem dS.apart (g:dS H x)(hi:HI H held s0){e e':Int×B5}(he:e∈x.kn)(he':e'∈x.kn){z:Int}(h1:e.2.2.2.1<=z)(h2:z<e.2.2.2.1+e.2.2.2.2.1)(h3:e'.2.2.2.1<=z)(h4:z<e'.2.2.2.1+e'.2.2.2.2.1):e=e':=by
 obtain⟨l,b,i,p⟩:=g.of he;obtain⟨m,a,d,j⟩:=g.of he';have:=IP hi b a (z:=z) O O O O;subst this;exact UX (g.tB hi) he he' (by rw[←i,←d])
theorem dS.usable (g:dS H x)(hi:HI H held s0){e:Int×B5}(he:e∈x.kn):Kx H e.2.2.2.1=some e.2.2.2.2.1:=by
 obtain⟨l,b,a,d⟩:=g.of he;unfold Kx;rw[←a,Qd hi.lk (show(l.1,l.2)∈H.live from b)];exact congrArg some d
theorem dS.lost (g:dS H x)(hi:HI H held s0){e:Int×B5}(he:e∈x.kn):UI H e.2=false:=by
 unfold UI;rw[g.usable hi he];simp
theorem dS.map (g:dS H x)(hi:HI H held s0){e:Int×B5}(he:e∈x.kn){w:Nat}(h1:e.2.2.2.1<=((8*w:Nat):Int))(h2:((8*w:Nat):Int)<e.2.2.2.1+e.2.2.2.2.1):gf H.sp.st (w/32)≠0:=by
 obtain⟨l,a,b,d⟩:=g.of he;exact Dw hi a O O
theorem gK.word (bi:gK b){z:Int}(h:z∈Zi b\/z∈XR b):(∃w:Nat,z=((8*w:Nat):Int))/\b.2.2.1<=z/\z<b.2.2.1+b.2.2.2.1:=by
 have a:=bi.base;have g:=bi.z;have d:=bi.t;rcases h with h|h
 ·have:=HB bi h;exact⟨⟨z.toNat/8,O⟩,O,O⟩
 ·have:=H7 bi h;exact⟨⟨z.toNat/8,O⟩,O,O⟩
theorem gK.nw (bi:gK b){z:Int}(h:z∈Zi b):z∉XR b:=λa=>by
 have d:=HB bi h;have g:=H7 bi a;omega
theorem dS.acc (g:dS H x)(hi:HI H held s0){e:Int×B5}(he:e∈x.kn){z:Int}(h:z∈Zi e.2\/z∈XR e.2):eO H.sp z=0:=by
 obtain⟨⟨w,rfl⟩,a,b⟩:=(g.i e he).2.word h;exact Hg.2 (g.map hi he a b)
theorem dS.broken (g:dS H x)(hi:HI H held s0){e:Int×B5}(he:e∈x.kn):QV H.sp e.2=[]:=by
 unfold QV;rw[List.filter_eq_nil_iff];intro z hz;unfold jO;rw[g.acc hi he (.inl hz),g.can e he z hz];simp
theorem dS.cK (g:dS H x)(hi:HI H held s0):JL H x=[]:=by
 unfold JL;rw[List.flatMap_eq_nil_iff];intro e he;unfold Iw;rw[g.lost hi he,g.broken hi he];rfl
theorem dS.jz (bi:gK b){z:Int}(h1:b.1<=z)(h2:z<b.1+ZK b.2.1)(h8:z%8=0):z∈XR b:=by
 have:=bi.z;have a:=Zm (n:=b.2.1) (by have:=bi.s;omega);refine zE.2 ⟨((z-b.1)/8).toNat,zg.2 ?_,O⟩;unfold QI;omega
theorem Dc (hi:HI H held s0)(ks:KS H.sp sp){l:Int×Bk}(hl:l∈H.live){w:Nat}(h1:l.1<=((8*w:Nat):Int))(h2:((8*w:Nat):Int)<l.1+l.2.2.1):Q1 sp ((8*w:Nat):Int)=Q1 H.sp ((8*w:Nat):Int)/\gf sp.st (w/32)≠0:=by
 have a:=Dw hi hl h1 h2;have:=ks.k _ a;rw[yR,yR,zC a,zC this.1,this.2 w rfl];exact⟨rfl,this.1⟩
def Kept (H:Hw)(x:Gu)(H':Hw)(x':Gu)(e:Int×B5):Prop:=e∈x'.kn/\∀z∈XR e.2,Q1 H'.sp z=Q1 H.sp z
theorem Oq (bi:gK b):∀z∈Zi b,0<=z/\z%8=0:=λz a=>by
 have:=HB bi a;have:=bi.base;omega
theorem Bz (bi:gK b):∀z∈XR b,0<=z/\z%8=0:=λz a=>by
 have:=H7 bi a;have:=bi.base;have:=bi.z;omega
theorem dS.dZ (g:dS H x)(hi:HI H held s0)(gr:vP H x size align b H1)(o:fT H H1)(hi1:HI H1 held1 s1) :
 dS {H1 with sp:=jS H1.sp b} (x.dZ b)/\(x.dZ b).kn=x.kn++[(b.1,b)]/\(∀e∈x.kn,Kept H x {H1 with sp:=jS H1.sp b} (x.dZ b) e)/\(∀z∈XR b,Q1 (jS H1.sp b) z=0)/\eO (jS H1.sp b) b.1=0:=by
 have bi:=gr.bi;obtain⟨B,cl,r,_⟩:bU H.live b.2.2.1=none/\∃cl,H1.live=dA H.live b.2.2.1 (b.2.2.1,(oZ H.tb (zA align+ZK size+16) (zA align)).1,cl,Yg H1.bZ b.2.2.1)/\True:=by
  rcases gr.me with⟨h,_⟩|⟨_,F,_,cl,E,_⟩
  ·exact absurd rfl h
  ·exact⟨F,cl,E,trivial⟩
 have U:=gr.u;unfold Kx at U;rw[r,Ck]at U;have M:(oZ H.tb (zA align+ZK size+16) (zA align)).1=b.2.2.2.1:=Option.some.inj U;rw[M]at r;rw[Im B]at r;have N:∃l∈H1.live,l.1=b.2.2.1/\l.2.2.1=b.2.2.2.1:=⟨(b.2.2.1,(b.2.2.1,b.2.2.2.1,cl,Yg H1.bZ b.2.2.1)),by rw[r];simp,rfl,rfl⟩;obtain⟨ln,P,V,ln2⟩:=N;have S:∀l∈H.live,l∈H1.live:=λl K=>by rw[r];exact kP _ K
 have J:∀e∈x.kn,∀z,e.2.2.2.1<=z->z<e.2.2.2.1+e.2.2.2.2.1->b.2.2.1<=z->z<b.2.2.1+b.2.2.2.1->False:=λe d z F E h3 h4=>by
  obtain⟨l,K,a1,a2⟩:=g.of d;have:=IP hi1 (S l K) P (z:=z) O O O O;subst this;have:=Gg.1 B l K;exact this V
 have Z:=bi.base;have hb2:=bi.z;have aa:=bi.t;have ac:=Zm (n:=b.2.1) (by have:=bi.s;omega);have R:bU x.kn b.1=none:=Gg.2 λe d h=>by
  have y:=(g.i e d);have q0:=y.1;have q4:=y.2.s;have ab:=bi.s;have q1:=y.2.base;have q2:=y.2.z;have q3:=y.2.t;have qw:=Zm (n:=e.2.2.1) (by have:=y.2.s;omega);exact J e d b.1 O O O O
 have A:(x.dZ b).kn=x.kn++[(b.1,b)]:=Im R b;have p:∀z,(z∈Zi b\/z∈XR b)->∃w:Nat,z=((8*w:Nat):Int)/\gf H1.sp.st (w/32)≠0:=λz m=>by
  obtain⟨⟨w,rfl⟩,F,E⟩:=bi.word m;exact⟨w,rfl,Dw hi1 P O O⟩
 have G:=Oq bi;have D:=Bz bi;obtain⟨_,Y,_⟩:=yI jA (Zi b) H1.sp G;have L:∀w:Nat,((8*w:Nat):Int)∉Zi b->((8*w:Nat):Int)∉XR b->Q1 (jS H1.sp b) ((8*w:Nat):Int)=Q1 H1.sp ((8*w:Nat):Int):=λw F E=>by
  unfold jS;rw[KO D,zB λh=>E h.1,KO G,zB λh=>F h.1]
 have C:∀e∈x.kn,∀z,(z∈Zi e.2\/z∈XR e.2)->Q1 (jS H1.sp b) z=Q1 H.sp z:=λe d z m=>by
  obtain⟨l,K,a1,a2⟩:=g.of d;obtain⟨⟨w,rfl⟩,F,E⟩:=(g.i e d).2.word m;have:=Dc (H:=H) hi o.ks K (w:=w) O O;rw[L w (λm=>by have:=bi.word (.inl m);exact J e d _ F E this.2.1 this.2.2) (λm=>by have:=bi.word (.inr m);exact J e d _ F E this.2.1 this.2.2)];exact this.1
 refine⟨⟨?_,λe d z m=>?_,λj=>(o.ph j).trans (g.ph j),λe d=>?_,?_⟩,A,λe d=>⟨by rw[A];exact kP _ d,λz m=>C e d z (.inr m)⟩,λz m=>?_,?_⟩
 ·show H1.live.map _=_;rw[r,A,zm,zm,g.live];rfl
 ·show Q1 (jS H1.sp b) z=jA z;rw[A]at d;rcases zM.1 d with d|d
  ·rw[C e d z (.inl m)];exact g.can e d z m
  ·rw[zN]at d;subst d;obtain⟨w,rfl,Q⟩:=p z (.inl m);unfold jS;rw[KO D,zB λh=>bi.nw m h.1,KO G,zC ⟨m,Q⟩]
 ·rw[A]at d;rcases zM.1 d with d|d
  ·exact g.i e d
  ·rw[zN]at d;subst d;exact⟨rfl,bi⟩
 ·rw[A,zm,nk];refine⟨g.nd,by simp,λa ha c X=>?_⟩;simp only[zR,pq,zN]at X;subst X;obtain⟨e,d,rfl⟩:=zE.1 ha;exact Gg.1 R e d
 ·obtain⟨w,rfl,Q⟩:=p z (.inr m);unfold jS;rw[KO D,zC ⟨m,λh=>Q ((Y _).1 h)⟩]
 ·have W:b.1∈XR b:=dS.jz bi (yp _) (by have:=bi.s;omega) bi.z.2.2;obtain⟨w,hw,Q⟩:=p b.1 (.inr W);obtain⟨_,k2,_⟩:=yI (λ_=>0) (XR b) (iI H1.sp (Zi b) jA) D;rw[hw];unfold jS;exact Hg.2 λh=>Q ((Y _).1 ((k2 _).1 h))
theorem dS.same (g:dS H x)(hi:HI H held s0)(o:fT H H')(hl:H'.live=H.live):dS H' x/\∀e∈x.kn,Kept H x H' x e:=by
 have a:∀e∈x.kn,∀z,(z∈Zi e.2\/z∈XR e.2)->Q1 H'.sp z=Q1 H.sp z:=λe b z d=>by
  obtain⟨l,hl,r,s⟩:=g.of b;obtain⟨⟨w,rfl⟩,m,p⟩:=(g.i e b).2.word d;exact(Dc (H:=H) hi o.ks hl (w:=w) O O).1
 exact⟨⟨by rw[hl];exact g.live,λe b z d=>by rw[a e b z (.inl d)];exact g.can e b z d,λj=>(o.ph j).trans (g.ph j),g.i,g.nd⟩,λe b=>⟨b,λz d=>a e b z (.inr d)⟩⟩
theorem dS.write (g:dS H x)(hi:HI H held s0){k:Int×B5}(hk:k∈x.kn){z v:Int}(hz:z∈XR k.2):dS {H with sp:=ZI H.sp z v} x/\(∀e∈x.kn,e≠k->Kept H x {H with sp:=ZI H.sp z v} x e)/\(∀u∈XR k.2,Q1 (ZI H.sp z v) u=if u=z then v else Q1 H.sp u):=by
 obtain⟨⟨b,rfl⟩,C,B⟩:=(g.i k hk).2.word (.inr hz);have s:=g.map hi hk C B;have m:∀w:Nat,Q1 (ZI H.sp ((8*b:Nat):Int) v) ((8*w:Nat):Int)=if w=b/\gf H.sp.st (w/32)≠0 then v else Q1 H.sp ((8*w:Nat):Int):=λw=>by
  have:=KO (f:=λ_=>v) (l:=[((8*b:Nat):Int)]) (sp:=H.sp) (λz hz=>by rw[zN]at hz;subst hz;omega) w;have e:iI H.sp [((8*b:Nat):Int)] (λ_=>v)=ZI H.sp ((8*b:Nat):Int) v:=rfl;rw[e]at this;rw[this];by_cases hw:w=b
  ·subst hw;by_cases hm:gf H.sp.st (w/32)≠0
   ·rw[zC ⟨zN.2 rfl,hm⟩,zC ⟨rfl,hm⟩]
   ·rw[zB λh=>hm h.2,zB λh=>hm h.2]
  ·rw[zB λh=>hw (by have:=zN.1 h.1;omega),zB λh=>hw h.1]
 have j:∀e∈x.kn,∀u,(u∈Zi e.2\/u∈XR e.2)->(e=k->u∈Zi e.2)->Q1 (ZI H.sp ((8*b:Nat):Int) v) u=Q1 H.sp u:=λe d u a r=>by
  obtain⟨⟨w,rfl⟩,y,A⟩:=(g.i e d).2.word a;rw[m,zB];rintro⟨rfl,_⟩;have:=g.apart hi d hk y A C B;subst this;exact(g.i e d).2.nw (r rfl) hz
 refine⟨⟨g.live,λe d u a=>?_,g.ph,g.i,g.nd⟩,λe d p=>⟨d,λu a=>j e d u (.inr a) λh=>absurd h p⟩,λu a=>?_⟩
 ·show Q1 (ZI H.sp ((8*b:Nat):Int) v) u=jA u;rw[j e d u (.inl a) λ_=>a];exact g.can e d u a
 ·obtain⟨⟨w,rfl⟩,y,A⟩:=(g.i k hk).2.word (.inr a);rw[m];by_cases hw:w=b
  ·subst hw;rw[zC ⟨rfl,s⟩,zC rfl]
  ·rw[zB λh=>hw h.1,zB λh=>hw O]
theorem dS.free (g:dS H x)(hi:HI H held s0){b:B5}(hk:bU x.kn addr=some b){e:Int}(hw:KM (dO H b) thread 1 0 0 b.2.2.1 H1 0 e)(o:fT (dO H b) H1)(fe:nO (dO H b) thread b.2.2.1 H1 e)(hrd:ZL H thread=0)(hcf:H.cf.threads=H.bR.length) :
 dS H1 (x.gone addr)/\∀k∈x.kn,k.1≠addr->Kept H x H1 (x.gone addr) k:=by
 have a:(addr,b)∈x.kn:=ZD hk;have C:=g.i _ a;have R:addr=b.1:=C.1;have L:gK b:=C.2;obtain⟨l,N,K,U⟩:=g.of a;simp only at K U;have F:(dO H b).live=H.live:=rfl;have G:bU H.live b.2.2.1=some l.2:=by rw[←K];exact Qd hi.lk (show(l.1,l.2)∈H.live from N)
 have s:H1.live=cO H.live b.2.2.1:=by
  rcases fe with⟨_,_,h⟩|⟨_,h,_⟩|⟨_,_,_,_,h⟩
  ·exfalso;unfold ZL at hrd;rw[UR]at hrd;split at hrd
   ·cases hrd
   ·rename_i hth;have r:=g.ph thread.toNat;unfold Vb at h;have D:thread.toNat<H.bR.length:=by omega
    rw[zC (show 0<=thread/\thread<((dO H b).bR.length:Int)from⟨O,by show thread<(H.bR.length:Int);omega⟩)]at h;have P:(dO H b).bR[thread.toNat]?=some H.bR[thread.toNat]:=cW D;rw[P]at h;simp only at h;unfold fF at r;rw[cW D]at r;rw[zC (show H.bR[thread.toNat].ph=none from r)]at h;unfold iR at h;rw[zB aB,zC rfl]at h;cases h
  ·rw[F,G]at h;cases h
  ·exact h
 have J:=Bz L;have u:∃s1,HI (dO H b) held s1:=HI.iI _ _ hi;obtain⟨s1,u⟩:=u;have d:∀k∈x.kn,k.1≠addr->∀z,(z∈Zi k.2\/z∈XR k.2)->Q1 H1.sp z=Q1 H.sp z:=λk hk m z A=>by
  obtain⟨Q,E,W,V⟩:=g.of hk;obtain⟨⟨w,rfl⟩,S,M⟩:=(g.i k hk).2.word A;rw[(Dc u o.ks (l:=Q) E (w:=w) O O).1];show Q1 (iI H.sp (XR b) λ_=>HX) _=_;rw[KO J,zB];rintro⟨hw,_⟩;have B:=L.word (.inr hw);have:=g.apart hi hk a S M B.2.1 B.2.2;subst this;exact m rfl
 have p:∀k,k∈(x.gone addr).kn↔k∈x.kn/\k.1≠addr:=λk=>by
  show k∈cO x.kn addr↔_;unfold cO;rw[zL];simp
 refine⟨⟨?_,λk hk z A=>?_,λj=>(o.ph j).trans (g.ph j),λk hk=>g.i k ((p k).1 hk).1,?_⟩,λk hk m=>⟨(p k).2 ⟨hk,m⟩,λz A=>d k hk m z (.inr A)⟩⟩
 ·rw[s];show(cO H.live b.2.2.1).map _=(cO x.kn addr).map _;unfold cO;have e1:(H.live.filter λy=>!(y.1==b.2.2.1)).map (λe=>(e.1,e.2.2.1))=(H.live.map λe=>(e.1,e.2.2.1)).filter λq=>!(q.1==b.2.2.1):=by rw[xe];rfl
  rw[e1,g.live,xe]
  congr 1
  apply vI;intro k hk;simp only[Function.comp]
  congr 1
  rw[j0,zU,zU];constructor
  ·intro h;have:=UX (g.tB hi) hk a h;rw[this]
  ·intro h;have:=UX g.nd hk a h;rw[this]
 ·have:=(p k).1 hk;rw[d k this.1 this.2 z (.inl A)];exact g.can k this.1 z A
 ·show((cO x.kn addr).map _).Nodup;exact g.nd.sublist (List.filter_sublist.map _)
end Go.Ar
namespace Go.Ar
open Go Go.Vc Go.Proofs
open Go.Vc (bU dA cO)
variable {size align:Int}{U σ0 v w w':Hp}{F P Q X T:Rg}{L:dE}{H H' H1:Hw}{held:List Pc}{s0 sp:Sp}{t n:Nat}{g:Th}{gb km fm m xb:Nat}{x y:Gu}{b:B5}
def CV (gb:Nat)(addrs ls:Sl):List Value:=[.pointer (some ⟨gb,0,none⟩),.slice addrs.a addrs.len addrs.cap,.slice ls.a ls.len ls.cap]
structure oI (σ0 U:Hp) (xb:Nat) (L:dE) (H:Hw) (held:List Pc) (s0:Sp) (P:Rg) (gb km fm:Nat) (x:Gu) (Qa Ql:Rg) (addrs:Sl) (ad:List Int) (ls:Sl) (la:List T3):Prop where
 p:GP σ0 U L H held s0 P gb km fm x
 b:bY U xb (CV gb addrs ls)
 ra:bT addrs 1 (Wx ad) U Qa
 rl:bT ls 3 (lQ la) U Ql
 qH:σ0.size<=xb/\¬Mg P gb km fm xb/\¬Qa xb/\¬Ql xb
 qa:∀b,Qa b->σ0.size<=b/\b<U.size/\¬Mg P gb km fm b
 ql:∀b,Ql b->σ0.size<=b/\b<U.size/\¬Mg P gb km fm b
 qq:∀b,Qa b->¬Ql b
variable {Qa Ql:Rg}{addrs ls:Sl}{ad:List Int}{la:List T3}
theorem oI.fr (o:oI σ0 U xb L H held s0 P gb km fm x Qa Ql addrs ad ls la)(e:aF U w):oI σ0 w xb L H held s0 P gb km fm x Qa Ql addrs ad ls la:=
 ⟨o.p.fr e,e.bV o.b id,aI.bP o.ra e,aI.bP o.rl e,o.qH,λb a=>by have h:=o.qa b a;have:=e.1;exact⟨h.1,O,h.2.2⟩,λb a=>by have h:=o.ql b a;have:=e.1;exact⟨h.1,O,h.2.2⟩,o.qq⟩
theorem Fi {P':Rg}(hg:gb<n/\km<n/\fm<n)(hP:∀b,P' b->P b\/n<=b):∀b,Mg P' gb km fm b->Mg P gb km fm b\/n<=b:=by
 rintro b (h|h)
 ·exact(hP b h).imp .inl id
 ·exact .inl (.inr h)
theorem oI.fB (o:oI σ0 U xb L H held s0 P gb km fm x Qa Ql addrs ad ls la){L':dE}{held':List Pc}{s0':Sp}{P':Rg}(e:Ext (Mg P gb km fm) U w)(p':GP σ0 w L' H' held' s0' P' gb km fm y)(hP:∀b,P' b->P b\/U.size<=b) :
 oI σ0 w xb L' H' held' s0' P' gb km fm y Qa Ql addrs ad ls la:=by
 have D:=e.1;have d:=o.b.lt;obtain⟨z,r,u,A⟩:=o.qH;have g:∀b,b<U.size->¬Mg P gb km fm b->¬Mg P' gb km fm b:=λb C B s=>by
  rcases Fi ⟨o.p.b.lt,o.p.m.lt,o.p.f.lt⟩ hP b s with h4|h4
  ·exact B h4
  ·omega
 exact⟨p',e.bV o.b r,aI.bS o.ra e λb _ a j=>(o.qa b a).2.2 j,aI.bS o.rl e λb _ a j=>(o.ql b a).2.2 j,⟨z,g _ d r,u,A⟩,λb i=>by have h:=o.qa b i;exact⟨h.1,O,g b h.2.1 h.2.2⟩,λb i=>by have h:=o.ql b i;exact⟨h.1,O,g b h.2.1 h.2.2⟩,o.qq⟩
theorem VC {c:Nat}(h:¬Mg P gb km fm c):¬P c/\c≠gb/\c≠km/\c≠fm:=⟨λa=>h (.inl a),λe=>h (.inr (.inl e)),λe=>h (.inr (.inr (.inl e))),λe=>h (.inr (.inr (.inr e)))⟩
theorem tH (p:GP σ0 U L H held s0 P gb km fm x){c:Nat}(h:Mg P gb km fm c):c<U.size:=by
 rcases h with h|rfl|rfl|rfl
 ·exact(p.pP c h).2
 ·exact p.b.lt
 ·exact p.m.lt
 ·exact p.f.lt
theorem oI.cE (o:oI σ0 U xb L H held s0 P gb km fm x Qa Ql addrs ad ls la){s':Sl}{ad':List Int}(e:Ext Qa U w)(hr:bT s' 1 (Wx ad') w λb=>Qa b\/U.size<=b/\b<w.size){K:aP}
 (hK:∀u,Ext (· = xb) w u->oI σ0 u xb L H held s0 P gb km fm x (λb=>Qa b\/U.size<=b/\b<w.size) Ql s' ad' ls la->K u):dQ (Addr.add ⟨xb,0,none⟩ 1) (.slice s'.a s'.len s'.cap) w K:=by
 have J:=e.1;have E:=o.b.lt;obtain⟨y,B,r,z⟩:=o.qH;have F:=o.p.out e λb _ d=>by have h:=o.qa b d;have i:=VC h.2.2;exact⟨i.1,i.2.1,i.2.2.1,i.2.2.2,h.1⟩
 have s:=aI.bS o.rl e λb _ j D=>o.qq b D j;refine(e.bV o.b r).s1 (by simp[CV]) λu A b=>?_;have m:=A.ext;have G:=A.1;have i:=VC B;refine hK u m ⟨F.out m λb _ (d:b=xb)=>by subst d;exact⟨i.1,i.2.1,i.2.2.1,i.2.2.2,y⟩,b,aI.bS hr m λb _ g (d:b=xb)=>?_,aI.bS s m λb _ g (d:b=xb)=>z (d▸g),⟨y,B,?_,z⟩,λb d=>?_,λb d=>by have h:=o.ql b d;exact⟨h.1,O,h.2.2⟩,λb d j=>?_⟩
 ·subst d;rcases g with g|g
  ·exact r g
  ·omega
 ·rintro(g|g)
  ·exact r g
  ·omega
 ·rcases d with d|d
  ·have h:=o.qa b d;exact⟨h.1,O,h.2.2⟩
  ·have:=o.p.e.1;exact⟨O,O,λC=>by have:=tH o.p C;omega⟩
 ·rcases d with d|d
  ·exact o.qq b d j
  ·have:=(o.ql b j).2.1;omega
theorem oI.iv (o:oI σ0 U xb L H held s0 P gb km fm x Qa Ql addrs ad ls la){s':Sl}{la':List T3}{Ql':Rg}(e:Ext Ql U w)(hr:bT s' 3 (lQ la') w Ql')(hQ:∀b,Ql' b->Ql b\/U.size<=b/\b<w.size){K:aP}
 (hK:∀u,Ext (· = xb) w u->oI σ0 u xb L H held s0 P gb km fm x Qa Ql' addrs ad s' la'->K u):dQ (Addr.add ⟨xb,0,none⟩ 2) (.slice s'.a s'.len s'.cap) w K:=by
 have M:=e.1;have F:=o.b.lt;obtain⟨s,C,y,z⟩:=o.qH;have G:=o.p.out e λb _ d=>by have h:=o.ql b d;have g:=VC h.2.2;exact⟨g.1,g.2.1,g.2.2.1,g.2.2.2,h.1⟩
 have m:=aI.bS o.ra e λb _ E i=>o.qq b E i;refine(e.bV o.b z).s1 (by simp[CV]) λu A b=>?_;have j:=A.ext;have J:=A.1;have g:=VC C;have B:¬Ql' xb:=λh=>by
  rcases hQ xb h with h|h
  ·exact z h
  ·omega
 refine hK u j ⟨G.out j λb _ (d:b=xb)=>by subst d;exact⟨g.1,g.2.1,g.2.2.1,g.2.2.2,s⟩,b,aI.bS m j λb _ r (d:b=xb)=>y (d▸r),aI.bS hr j λb _ r (d:b=xb)=>B (d▸r),⟨s,C,y,B⟩,λb d=>by have h:=o.qa b d;exact⟨h.1,O,h.2.2⟩,λb d=>?_,λb d i=>?_⟩
 ·rcases hQ b d with d|d
  ·have h:=o.ql b d;exact⟨h.1,O,h.2.2⟩
  ·have:=o.p.e.1;exact⟨O,O,λD=>by have:=tH o.p D;omega⟩
 ·rcases hQ b i with i|i
  ·exact o.qq b d i
  ·have:=(o.qa b d).2.1;omega
inductive nF (H:Hw) (x:Gu) (d:eW) (a:Int):Hw->Gu->Int->Option Int->Bool->Prop where
 | same (e:Int):(e=0->d.kd≠20/\d.kd≠21/\d.kd≠22)->nF H x d a H x e none false
 | full {H':Hw} {e:Int}:d.kd=20->my d.a d.b=true->e≠0->KM H d.th 0 (zA d.b+ZK d.a+16) (zA d.b) 0 H' 0 e->fT H H'->H'.live=H.live->nF H x d a H' x e none false
 | dZ {b:B5} {H1:Hw}:d.kd=20->vP H x d.a d.b b H1->KM H d.th 0 (zA d.b+ZK d.a+16) (zA d.b) 0 H1 b.2.2.1 0->fT H H1->nF H x d a {H1 with sp:=jS H1.sp b} (x.dZ b) 0 (some b.1) false
 | kS {b:B5} {H1:Hw} {e:Int}:(d.kd=21\/d.kd=22)->bU x.kn a=some b->l6 H x d.th a true=0->KM (dO H b) d.th 1 0 0 b.2.2.1 H1 0 e->fT (dO H b) H1->nO (dO H b) d.th b.2.2.1 H1 e->nF H x d a H1 (x.gone a) 0 none true
 | wrote:d.kd=26->qm H x a 0->nF H x d a {H with sp:=ZI H.sp a d.va} x (eO H.sp a) none false
def Om (d:eW)(add:Option Int)(del:Bool)(a:Int)(la:List T3):List T3:=match add with
 | some b=>la++[(b,d.a,d.b)]
 | none=>if del then la.filter λq=>!(q.1==a)else la
end Go.Ar
namespace Go.Ar
open Go Go.Vc Go.Proofs
open Go.Vc (bU dA cO)
open Go.Bu (fC VF Hu)
variable {size align a:Int}{U σ0 v w w':Hp}{F P Q X T:Rg}{L:dE}{H H' H1:Hw}{held held' held1:List Pc}{s0 s0' s1 sp:Sp}{t n:Nat}{gb km fm m xb:Nat}{x x' y:Gu}{b:B5}{ad:List Int}{la:List T3}{d:eW}{add:Option Int}{del:Bool}{e:Int}{l:Sl}{ds:List eW}
theorem JE {s c al:Int}{i:Int}(h1:256%al=0)(h2:c%al=0):(s*256+i*c)%al=0:=by
 obtain⟨q1,e1⟩:=zx h1;obtain⟨q2,e2⟩:=zx h2;refine Int.emod_eq_zero_of_dvd ⟨s*q1+i*q2,?_⟩;rw[e1,e2,Int.mul_add,Int.mul_left_comm s,Int.mul_left_comm i]
theorem TP (hi1:HI H1 held1 s1)(hp:HI H held s0)(ht:H1.tb=H.tb){al base:Int}(h256:256%al=0)(me:rY H size al H1 base 0):base%al=0:=by
 rcases me with⟨h,_⟩|⟨_,hm,_,cl,hl,hcl⟩
 ·exact absurd rfl h
 have x:(base,((base,(oZ H.tb size al).1,cl,Yg H1.bZ base):Bk))∈H1.live:=by rw[hl];exact ZD (Ck _)
 obtain⟨_,p,u,_,F,C,_,_⟩:=hi1.lv _ x;obtain⟨A,D,hd⟩:=hi1.wi.hf p u;simp only at F C;rcases hd with⟨q1,_,r,_,q2,_⟩|⟨j,c,q1,q2,_,q3,_⟩
 ·rw[←C,q2];have:((r.1*256:Nat):Int)=(r.1:Int)*256+0*0:=by omega
  rw[this];exact JE h256 aA
 ·rcases hcl with⟨k,rfl,hk⟩|⟨rfl,_⟩
  ·have B:j=k:=by omega
   subst B;obtain⟨G,b,_,m⟩:=Jj hk;have d:A.tb=H1.tb:=hi1.wi.tb _ A D;rw[d,ht,b]at q2;cases q2;obtain⟨z,J,a,y⟩:=q3;have g:=(hi1.wi.ga _ A D).cG _ _ _ a;have w:z=c:=by
    have:=a.1;rw[d,ht,b]at this;exact(Option.some.inj this).symm
   subst w;obtain⟨_,s,i,_,_,E,_⟩:=(Uf g).1 y;rw[←C,E];have:((at_ z s i:Nat):Int)=(s.st:Int)*256+(i:Int)*(z.size:Int):=by unfold at_;simp
   rw[this];exact JE h256 m
  ·omega
theorem Oj {al:Int}(h1:1<=al)(h2:al<=256)(hp:fC al=true):256%al=0/\(al<16->16%al=0):=by
 obtain⟨al,rfl⟩:=zc (show 0<=al by omega);rw[VF]at hp;have key:∀a:Nat,a<=256->1<=a->(a &&& (a-1)=0)->256%a=0/\(a<16->16%a=0):=by decide +kernel
 have:=key al O O (by have:=Hu (a:=al) O O;rw[hp]at this;simpa using this);exact⟨by rw[show(256:Int)=((256:Nat):Int)from rfl,←Int.natCast_emod,this.1];rfl,λh=>by rw[show(16:Int)=((16:Nat):Int)from rfl,←Int.natCast_emod,this.2 O];rfl⟩
theorem NV {al:Int}(h1:1<=al)(h2:al<=256)(hp:fC al=true):256%zA al=0/\zA al%al=0:=by
 have:=Oj h1 h2 hp;unfold zA;split
 ·exact⟨by decide,this.2 O⟩
 ·exact⟨this.1,by simp⟩
structure AL (H:Hw) (x:Gu) (ad:List Int) (la:List T3):Prop where
 g:dS H x
 n0:0<=x.no
 nl:(x.kn.length:Int)<=x.no/\(ad.length:Int)<=x.no
 lq:la.map (λa=>(a.1,a.2.1,zA a.2.2))=x.kn.map (λe=>(e.1,e.2.2.1,e.1-e.2.2.2.1))
 ok:∀a∈la,my a.2.1 a.2.2=true/\a.1%a.2.2=0
 dq:∀a∈ad,(bU x.kn a).isSome=true\/bU x.fr a=some true
 th:1<=H.cf.threads
theorem AL.out (al:AL H x ad la)(hi:HI H held s0)(cf:iU H)(o:nF H x d a H' x' e add del):AL H' x' (ad++add.toList) (Om d add del a la)/\x'.no<=x.no+1/\∀k∈x.kn,¬(k.1<=a/\a<k.1+ZK k.2.2.1)->Kept H x H' x' k:=by
 have g:=al.g;have E:ad++(none:Option Int).toList=ad:=by simp
 cases o with
 | same e S=>rw[E];exact⟨al,O,λk j _=>⟨j,λ_ _=>rfl⟩⟩
 | full j w r F op hl=>
  rw[E];obtain⟨y,D⟩:=g.same hi op hl;exact⟨⟨y,al.n0,al.nl,al.lq,al.ok,al.dq,by rw[op.kp.2.1];exact al.th⟩,O,λk j _=>D k j⟩
 | dZ j gr F op=>
  rename_i b H1;obtain⟨M,s1,B⟩:=op.hi;obtain⟨y,V,W,_,_⟩:=g.dZ hi gr op B;have A:=gr.ok;unfold my at A;rw[zF,zV]at A;obtain⟨⟨_,_,k3,k4⟩,kp⟩:=A;obtain⟨K,Q⟩:=NV k3 k4 kp;have L:=TP B hi op.kp.1 K gr.me;have C:(x.dZ b).no=x.no+1:=rfl;have N:(x.dZ b).fr=x.fr:=rfl;refine⟨⟨y,by have:=al.n0;omega,⟨?_,?_⟩,?_,λq u=>?_,λz p=>?_,by show 1<=H1.cf.threads;rw[op.kp.2.1];exact al.th⟩,O,λk j _=>W k j⟩
  ·rw[V,C,zK];have:=al.nl.1;simp;omega
  ·rw[C,zK];have:=al.nl.2;simp;omega
  ·show(la++[(b.1,d.a,d.b)]).map _=_;rw[V,zm,zm,al.lq]
   congr 1
   simp only[zR,pq,gr.s];have:=gr.a
   congr 3
   omega
  ·rcases zM.1 (show q∈la++[(b.1,d.a,d.b)]from u)with u|u
   ·exact al.ok q u
   ·rw[zN]at u;subst u;refine⟨gr.ok,?_⟩;show b.1%d.b=0;obtain⟨q1,e1⟩:=zx L;obtain⟨q2,e2⟩:=zx Q;refine Int.emod_eq_zero_of_dvd ⟨q2*q1+q2,?_⟩;rw[gr.a,e1,Int.mul_add,←Int.mul_assoc,←e2]
  ·have G:(x.dZ b).kn=dA x.kn b.1 b:=rfl;rw[G,N,US];rcases zM.1 p with p|p
   ·split
    ·exact .inl rfl
    ·exact al.dq z p
   ·simp only[qR,zN]at p;subst p;rw[zC rfl];exact .inl rfl
 | kS j hm hf F op fe=>
  rename_i b e;rw[E];have J:ZL H d.th=0:=by
   by_cases h:ZL H d.th=0
   ·exact h
   ·unfold l6 at hf;rw[zC h]at hf;exact absurd hf h
  obtain⟨y,D⟩:=g.free hi hm F op fe J cf.2.1;have w:(x.gone a).kn=cO x.kn a:=rfl;have P:(x.gone a).fr=dA x.fr a true:=rfl;refine⟨⟨y,al.n0,⟨?_,al.nl.2⟩,?_,λq u=>al.ok q (zL.1 u).1,λz p=>?_,by rw[op.kp.2.1];exact al.th⟩,by show x.no<=_;omega,λk j r=>D k j λh=>r ?_⟩
  ·rw[w];have Y:=pB (λq:Int×B5=>!(q.1==a)) x.kn;have X:=al.nl.1;show((x.kn.filter _).length:Int)<=x.no;omega
  ·show(la.filter λq=>!(q.1==a)).map _=(x.kn.filter λq=>!(q.1==a)).map _;have e1:(la.filter λq=>!(q.1==a)).map (λa=>(a.1,a.2.1,zA a.2.2))=(la.map λa=>(a.1,a.2.1,zA a.2.2)).filter λq=>!(q.1==a):=by rw[xe];rfl
   have e2:(x.kn.filter λq=>!(q.1==a)).map (λe=>(e.1,e.2.2.1,e.1-e.2.2.2.1))=(x.kn.map λe=>(e.1,e.2.2.1,e.1-e.2.2.2.1)).filter λq=>!(q.1==a):=by rw[xe];rfl
   rw[e1,e2,al.lq]
  ·rw[w,P,DK,US];by_cases h:z=a
   ·rw[zC h,zC h];exact .inr rfl
   ·rw[zB h,zB h];exact al.dq z p
  ·have m:=g.i k j;have Z:=m.2.s;have F:=Zm (n:=k.2.2.1) O;omega
 | wrote j wd=>
  rw[E];rcases wd with⟨h,_⟩|⟨k,j,hin,h8,_⟩
  ·cases h
  ·have m:=g.i k j;obtain⟨U,R⟩:=hin;have p:a∈XR k.2:=dS.jz m.2 U R h8;obtain⟨y,D,_⟩:=g.write hi j p (v:=d.va);refine⟨⟨y,al.n0,al.nl,al.lq,al.ok,al.dq,al.th⟩,O,λe S r=>D e S λh=>r ?_⟩;subst h;exact⟨by rw[m.1];exact U,by rw[m.1];exact R⟩
theorem AL.ready (al:AL H x ad la)(cf:iU H):ZL H 0=0:=by
 have b:=al.th;unfold ZL;rw[zB O,UR];have a:(if 0<=(0:Int)/\(0:Int)<(H.bR.length:Int)then fF H (0:Int).toNat else none)=none:=by
  split
  ·exact al.g.ph _
  ·rfl
 rw[a];rfl
variable {Qa Ql:Rg}{addrs ls:Sl}
end Go.Ar
namespace Go.Ar
open Go Go.Vc Go.Proofs Go.RowKit Go.Maps Go.Sort Go.Shelf
open Go.Vc (bU dA cO)
open Go.Bu (ld HM Uj HT VR AZ)
variable {U σ0 v w w':Hp}{F P Q X T:Rg}{L:dE}{H H' H1:Hw}{held:List Pc}{s0 sp:Sp}{t n:Nat}{gb km fm m:Nat}{x y:Gu}{b:B5}
def GE:Nat:=Tryz.ik.f 10
def Bh:Nat:=Tryz.ik.t 23
theorem Wj6 (m:Option Nat){R:Fv->Hp->Prop}(hR:R ⟨GE,#[],#[.pointer (some ⟨U.size,0,none⟩)]⟩ (U.push (.cells #[.map m] Bh (0,0)))) :
 ZF.c m U R:=by
 rintro w rfl;refine(callsIn_wide.1 (AnyZI.keys_in Tryz.lx Fence.wide 5 trivial rfl m w)).mono ?_;rintro e a ⟨rfl,rfl⟩;exact⟨⟨rfl,rfl,rfl,sF (by show _<(w.heap.push _).size;simp)⟩,[.func (.func GE) #[] #[.pointer (some ⟨w.heap.size,0,none⟩)]],rfl,⟨GE,#[],#[.pointer (some ⟨w.heap.size,0,none⟩)]⟩,rfl,hR⟩
theorem NC {w:World}{c m:Nat}{B:List (Int×B5)}(hc:cell w.heap ⟨c,0,none⟩=some (.map (some m)))(hm:dL w.heap m .i64 (.ag 5) B)(hb:∀x∈B,Go.Bu.jv x.1)(hs:B.length<=1000000)(n:Nat)(hn:1<=n) :
 SeqGives Fence.wide n Tryz.prog GE #[.pointer (some ⟨c,0,none⟩)] encZ (λss=>ss.Perm (B.map (·.1))) B.length w:=by
 obtain⟨D,d,i,b⟩:=VR (P:=Tryz.prog) Tryz.lx.t26 hm hb hs;have a:c<w.heap.size:=by
  unfold cell at hc;split at hc
  ·rename_i h;exact(jY.1 h).1
  ·cases hc
 have:=AnyZI.keys_gives (ρ:=Tryz.ik) {Tryz.lx with} Fence.wide n trivial rfl hn c m B.length D w a hc d;intro l J W hW hJ hY h0;rw[b]at this;refine(this l J W hW hJ hY h0).mono ?_;rintro e W' ⟨p,ss,g,j⟩;exact⟨p,ss,g.trans i,j⟩
theorem Mt {c m:Nat}{B:List (Int×B5)}(hc:cell U ⟨c,0,none⟩=some (.map (some m)))(hm:dL U m .i64 (.ag 5) B)(hb:∀x∈B,Go.Bu.jv x.1)(hs:B.length<=1000000){R:Sl->Hp->Prop}
 (hR:∀(s:Sl) (σ':Hp) (ss:List Int),aF U σ'->ss.Perm (B.map (·.1))->ss.Pairwise (· <= ·)->ld U.size σ' s (ss.map (Value.int .i64))->R s σ') :
 Ua.c ⟨GE,#[],#[.pointer (some ⟨c,0,none⟩)]⟩ U R:=by
 rintro w rfl;have g:=NC hc hm hb hs 2 O;have j:B.length<=maxLen:=by unfold maxLen;omega
 have u:=AnyZI.sorted_in Tryz.rG Fence.wide 5 trivial trivial trivial trivial rfl O (AZ _) (Tryz.pa.f5.enters rfl) GE #[.pointer (some ⟨c,0,none⟩)] trivial (Tryz.lx.f10.enters rfl) _ _ j O _ g;refine(callsIn_wide.1 u).mono ?_;rintro e D ⟨v,ss,rfl,z,i,r,d⟩;obtain⟨s,rfl,p⟩:=HM i;refine⟨HT d,[.slice s.a s.len s.cap],rfl,s,rfl,?_⟩;refine hR s _ (ss.mergeSort λx y=>decide (x<=y)) (Uj d) ((List.mergeSort_perm _ _).trans z) ?_ p;have:=List.pairwise_mergeSort (le:=λx y:Int=>decide (x<=y)) (λa b c A C=>by simp at *;omega) (λa b=>by simp;omega) ss;exact this.imp (λh=>by simpa using h)
structure xr (x:Gu) (es:List (Int×B5)):Prop where
 p:es.Perm x.kn
 s:es.Pairwise λa b=>a.1<b.1
def b4 (e:Int×B5):Bk:=(e.2.1,e.2.2.1,e.2.2.2.1,e.2.2.2.2.1)
theorem Mj (p:GP σ0 U L H held s0 P gb km fm x)(xi:∀e∈x.kn,e.1=e.2.1/\gK e.2)(hl:x.kn.length<=1000000){R:Sl->Hp->Prop}(hR:∀s σ' es,aF U σ'->xr x es->bT s 4 (jB (es.map b4)) σ' (λb=>U.size<=b)->R s σ'):Zb.c (aW gb) U R:=by
 refine Zb.o ?_;unfold Zb.v;have E:∀e∈x.kn,Go.Bu.jv e.1:=λe g=>by
  have h:=xi e g;have M:=h.1;have A:=h.2.z;have h3:=h.2.base;have h4:=h.2.t;have h5:=h.2.m;have h6:=h.2.s;have Z:=Zm (n:=e.2.2.1) O;unfold Go.Bu.jv;omega
 have r:=p.m.nodup;refine Uo p (cD rfl (bL (p.b.rM rfl (Wj6 _ ?_))));have e1:aF U (U.push (.cells #[.map (some km)] Bh (0,0))):=Ext.push _ _ _;have p1:=p.fr e1;refine Mt (by unfold cell;simp) p1.m E hl λs u d e2 Q y hs=>?_;have V:=e1.trans e2;have N:=cV.ub hs;have J:d.Nodup:=Q.nodup_iff.2 r;have aa:d.length=x.kn.length:=by rw[Q.length_eq];simp
 have hsl:s.len=d.length:=by have:=N.1;simp at this;omega
 let f:Int->Int×B5:=λk=>(k,(bU x.kn k).getD (0,0,0,0,0))
 have K:∀e∈x.kn,f e.1=e:=λe g=>by
  show(e.1,(bU x.kn e.1).getD (0,0,0,0,0))=e;rw[Qd r (show(e.1,e.2)∈x.kn from g)];rfl
 have hz1:U.size<u.size:=by
  have M:=e2.1;have A:(U.push (.cells #[.map (some km)] Bh (0,0))).size=U.size+1:=by simp
  omega
 refine Ux (a:=.s) (bb:=bO) (λ(out:Sl) (z:Int) w=>∃i:Nat,z=i/\i<=d.length/\aF u w/\bT out 4 (jB (((d.take i).map f).map b4)) w (λb=>u.size<=b)) (λ_ z _=>d.length-z.toNat) ⟨0,rfl,O,Ext.refl _ _,⟨by simp[jB],.inl ⟨rfl,rfl⟩⟩⟩ ?_;rintro(out:Sl) (z:Int) w ⟨i,rfl,hil,ew,hr⟩;have Z:=p1.fr (e2.trans ew);refine cP (λhlt=>?_) λhge=>?_
 ·have hx:d[i]?=some (d[i]' O):=cW _;have hol:out.len=i:=by have:=hr.1;rw[CE]at this;simp at this;omega
  have B:(d[i]' O)∈x.kn.map (·.1):=Q.mem_iff.1 (kv _);obtain⟨e,g,G⟩:=zE.1 B;have Y:f (d[i]' O)=e:=by rw[←G];exact K e g
  refine(aH.bP (aH.cut N) ew).lL hx (bL (Z.b.rM rfl ⟨x.kn,Z.m,?_⟩));have D:bU x.kn (d[i]' O)=some e.2:=by rw[←G];exact Qd r (show(e.1,e.2)∈x.kn from g)
  rw[D];refine hr.push (F:=λb=>u.size<=b) (vs:=lh (b4 e)) (λb C=>by have:=ew.1;omega) rfl rfl (by simp[lh,dY]) O O λs' w' hsl' S W=>?_;have e3:aF u w':=Ext.fresh ew S λb C=>C;refine cT (m:=i+1) O O ⟨⟨i+1,rfl,O,e3,?_⟩,O⟩;have:jB (((d.take (i+1)).map f).map b4)=jB (((d.take i).map f).map b4)++lh (b4 e):=by
   unfold jB;rw[ka,hx,zm,zm,List.flatMap_append];simp only[qR,zR,pq,pA,List.flatMap_nil,kR,Y]
  rw[this];exact W
 ·have X:i=d.length:=by omega
  subst X;rw[lN]at hr;have j:(d.map f).Perm x.kn:=by
   have M:=Q.map f;rw[lK]at M;have A:x.kn.map (f∘λe=>e.1)=x.kn:=by
    conv=>rhs;rw[←wo x.kn]
    exact kB λe g=>K e g
   rwa [A]at M
  refine hR out w (d.map f) (V.trans ew) ⟨j,?_⟩ (aI.mono hr λb _ C=>by
   show U.size<=b;have C:u.size<=b:=C;omega)
  rw[sR];exact(y.and J).imp λ{a b} ⟨M,A⟩=>by
   have h3:a≠b:=A;show a<b;omega
end Go.Ar
namespace Go.Proofs
open Go.Vc
set_option maxRecDepth 100000
def Wy.h:Hn:=.q .o1 (.q (.q .o3 .aK) (.q .o7 (.q (.q .o6 (.k (.loop [(20,.I)] (.q .o1 (.q (.c .l .l) (.q (.k (.q .o6 .o6)) .o2)))))) .aL)))
def Wy.v (a:R2)(b:Hp)(c:Sl->Hp->Prop):Prop:=Wm.c a b λd e=>If (!d) (c ⟨none,0,0⟩ e) (bF a 3 e λg=>Mk ((g.len:Nat):Int) ((g.len:Nat):Int) 8 3 [.I 0] e λh i=>bF a 3 i λk=>X8 [bO] (λl=>l 0 i) λm (n:Int) o=>If (n<((k.len:Nat):Int)) (Ix k.a k.len n 2 λp=>aQ p 0 o λq=>aQ p 1 o λr=>aV #[.I 0,.I 0] 101 o λs t=>aR s 0 (.I q) t λu=>aR s 1 (.I r) u λv=>aQ s 0 v λw=>Ix h.a h.len n 1 λx=>dQ x (.I w) v λy=>bM (n+1) λz=>m z y) (c h o))
theorem Wy.o {a b c}(d:Wy.v a b c):Wy.c a b c:=Wa Tryz.func16 (x:=Wy.h) (R0 d)
def Wt.h:Hn:=.q .o1 (.q (.q .o3 .aK) (.q .o1 (.q (.q .o6 (.k (.loop [(3,.I),(14,.I)] (.q .o1 (.q (.c .l .l) (.q (.k (.q .o4 .o5)) .o2)))))) .aL)))
def Wt.v (a:R2)(b:Hp)(c:aN):Prop:=Wm.c a b λd e=>If (!d) (c 0 e) (bF a 3 e λg=>X8 [bO,bO] (λh=>h 0 0 e) λi (j:Int) (k:Int) l=>If (k<((g.len:Nat):Int)) (Ix g.a g.len k 2 λm=>aQ m 0 l λn=>aQ m 1 l λo=>aV #[.I 0,.I 0] 101 l λp q=>aR p 0 (.I n) q λr=>aR p 1 (.I o) r λs=>aQ p 1 s λt=>bM (j+t) λu=>bM (k+1) λv=>i u v s) (c j l))
theorem Wt.o {a b c}(d:Wt.v a b c):Wt.c a b c:=Wa Tryz.func18 (x:=Wt.h) (R0 d)
def Wp.h:Hn:=.q .o2 (.q (.q .o3 .aJ) (.q (.o 12) .l))
def Wp.v (a:R2)(b c d:Int)(e:Hp)(f:Int->Int->Hp->Prop):Prop:=Wm.c a e λg h=>If (!g) (f 0 5 h) (bG a 0 h λj=>Ya.c j b c d h λk l m=>f k l m)
theorem Wp.o {a b c d e f}(g:Wp.v a b c d e f):Wp.c a b c d e f:=Wa Tryz.func21 (x:=Wp.h) (R0 g)
def WL.h:Hn:=.q .o1 (.q (.q .o3 .aK) (.q .o5 .l))
def WL.v (a:R2)(b:Hp)(c:Option Addr->Hp->Prop):Prop:=Wm.c a b λd e=>If (!d) (c none e) (bG a 0 e λg=>c g e)
theorem WL.o {a b c}(d:WL.v a b c):WL.c a b c:=Wa Tryz.func23 (x:=WL.h) (R0 d)
def WM.h:Hn:=.q .o1 (.q (.q .o3 .aK) (.q .o7 (.q .o6 .aL)))
def WM.v (a:R2)(b:Hp)(c:Sl->Hp->Prop):Prop:=Wm.c a b λd e=>If (!d) (c ⟨none,0,0⟩ e) (bF a 4 e λg=>Mk ((g.len:Nat):Int) ((g.len:Nat):Int) 16 62 [.I 0,.I 0] e λh i=>bF a 4 i λk=>sE h 2 k i λl m=>c h m)
theorem WM.o {a b c}(d:WM.v a b c):WM.c a b c:=Wa Tryz.func27 (x:=WM.h) (R0 d)
def WD.h:Hn:=.q .o2 (.q (.q .o4 (.q .o2 (.c (.q .o3 .l) .l))) (.q .o6 (.q (.k (.loop [] (.q (.q .o6 (.c .l .l)) (.k .o3)))) (.q .o3 .l))))
def WD.v (a:R2)(b:Int)(c:Hp)(d:Int->Int->Hp->Prop):Prop:=WK.c a b c λe f=>If (e != 0) (d 0 e f) (bF a 3 f λh=>X8 [] (λi=>i f) λj k=>bF a 3 k λm=>If (((m.len:Nat):Int)>0) (WB.c a b k λn=>j n) (d ((h.len:Nat):Int) 0 k))
theorem WD.o {a b c d}(e:WD.v a b c d):WD.c a b c d:=Wa Tryz.func30 (x:=WD.h) (R0 e)
def Wj.h:Hn:=.q .o1 (.q (.q .o4 (.q .o2 .aJ)) (.q (.q .o3 .aK) (.q .o9 (.q (.q .o2 (.c (.q .o8 .l) .l)) (.q (.o 11) (.q (.q .o2 .aJ) (.q (.q .o3 .aK) (.q (.q .o4 (.k (.loop [(56,.I)] (.q .o1 (.q (.c .l .l) (.q (.k (.q .o3 .o7)) .o2)))))) (.q (.cU (.held true [13] (.tk [0,1,2,3,4,5,6,7,8] (.all [(9,.all [(10,.take 11 (.take 12 (.all [(13,.done)])))])])))) (.q (.k (.loop [] (.q (.q (.cU (.gP true [] [(99,.one .b)] (.take 0 (.take 1 (.take 2 (.take 3 (.take 4 (.take 5 (.take 6 (.take 7 (.take 8 (.take 9 (.take 10 (.split 91 (.take 11 (.take 12 (.take 13 (.take 14 (.take 15 (.take 16 (.take 17 (.take 18 (.done))))))))) (.take 11 (.take 13 (.take 14 (.take 15 (.take 16 (.all [(12,.take 17 (.take 18 (.done)))])))))))))))))))))))) (.c .l .l)) (.k .o3)))) .aM))))))))))
def Wj.v (a:R2)(b c:Int)(d:Hp)(e:aN):Prop:=WK.c a b d λf g=>If (f != 0) (e f g) (WT.c a c g λh i=>If h (e 9 i) (WC.c a c i λj k l m n o=>aV #[.I 0,.I 0,.I 0,.I 0] 48 o λp q=>aR p 0 (.I j) q λr=>aR p 1 (.I k) r λs=>aR p 2 (.I l) s λt=>aR p 3 (.I m) t λu=>If (!n) (bG a 0 u λw=>Za.c w b c u λx y=>e x y) (bG a 0 u λaa=>X2.c aa c u λab ac ad=>If (ac != 0) (e ac ad) (If (((ab.len:Nat):Int)>0) (e 10 ad) (aQ p 0 ad λae=>aQ p 1 ad λaf=>aQ p 2 ad λag=>aQ p 3 ad λah=>XY.c ae af ag ah ad λai aj=>X8 [bO] (λak=>ak 0 aj) λal (am:Int) an=>If (am<((ai.len:Nat):Int)) (Ix ai.a ai.len am 1 λao=>bN ao an λap=>bG a 0 an λar=>XD.c ar an λau av=>XA.c au ap (-1234567) av λaw ax=>bM (am+1) λay=>al ay ax) (dW an λaz=>bW a λa0=>aT az a0 3 λa1=>aS az p 1 λa2=>aV #[.I c,.I a2] 101 an λa3 a4=>And (az a4) <| App a1 2 16 101 [.I 0,.I 0] ⟨some a3,1,1⟩ a4 λa5 a6=>And (az a6) <| bW a λa7=>aR a7 3 (.slice a5.a a5.len a5.cap) a6 λa8=>X8 [] (λa9=>a9 a8) λba bb=>Jn [.b] (λ(bc:Bool) bd=>If bc (WB.c a b bd λbe=>ba be) (e 0 bd)) λbf=>dW bb λbg=>bW a λbh=>aT bg bh 3 λbi=>bW a λbj=>aS bg bj 1 λbk=>If (((bi.len:Nat):Int)>bk) (bf true bb) (bW a λbl=>
 aS bg bl 2 λbm=>Wt.c a bb λbn bo=>And (bg bo) <| bf (decide (bn>bm)) bo)))))))
theorem Wj.o {a b c d e}(f:Wj.v a b c d e):Wj.c a b c d e:=Wa Tryz.func34 (x:=Wj.h) (R0 f)
def Zq.h:Hn:=.q .o2 (.q (.q (.cU (.seq [.op,.op,.op,.op,.cX false 2 [.op,.op],.op,.cX false 2 [.op,.op],.op,.cX false 2 [.op,.op],.op,.cX false 2 [.op,.op]])) .aJ) (.q .o7 .l))
def Zq.v (a:R2)(b c:Int)(d:Hp)(e:Option Addr->Int->Hp->Prop):Prop:=XD.c a d λf g=>bX (λh i=>bX (λj k=>bX (λl m=>bX (λn o=>If n (e none 1 o) (aV #[.pointer a,.I b,.I c,.slice none 0 0,.slice none 0 0] 71 o λp q=>e (some p) 0 q)) λr=>If l (r true m) (r (decide (c>16384)) m)) λs=>If j (s true k) (s (decide (c<0)) k)) λt=>If h (t true i) (t (decide (b>64)) i)) λu=>If f.isNone (u true g) (u (decide (b<0)) g)
theorem Zq.o {a b c d e}(f:Zq.v a b c d e):Zq.c a b c d e:=Wa Tryz.func36 (x:=Zq.h) (R0 f)
def WF.h:Hn:=.q .o2 (.q (.q .o3 .aJ) (.q (.q .o3 .aJ) (.q .gD .l)))
def WF.v (a:R2)(b:Int)(c:Hp)(d:Int->Int->Hp->Prop):Prop:=Wm.c a c λe f=>If (!e) (d 0 5 f) (WJ.c a b f λg h=>If g (d 0 9 h) (bG a 0 h λj=>Y8.c j b h λk l m=>d k l m))
theorem WF.o {a b c d}(e:WF.v a b c d):WF.c a b c d:=Wa Tryz.func37 (x:=WF.h) (R0 e)
def WR.h:Hn:=.q .o1 (.q (.q .o3 .aK) (.q (.q .o3 .aK) (.q .o8 .l)))
def WR.v (a:R2)(b c:Int)(d:Hp)(e:aN):Prop:=Wm.c a d λf g=>If (!f) (e 5 g) (WJ.c a b g λh i=>If h (e 9 i) (bG a 0 i λk=>YD.c k b c i λl m=>e l m))
theorem WR.o {a b c d e}(f:WR.v a b c d e):WR.c a b c d e:=Wa Tryz.func40 (x:=WR.h) (R0 f)
def Wm.h:Hn:=.q .o1 (.q (.cU (.seq [.op,.op,.op,.cX true 5 (RI.ops 5),.op])) .l)
def Wm.v (a:R2)(b:Hp)(c:aO):Prop:=bX (λd e=>c d e) λf=>If (!a.isNone) (bG a 0 b λh=>f (!h.isNone) b) (f false b)
theorem Wm.o {a b c}(d:Wm.v a b c):Wm.c a b c:=Wa Tryz.func55 (x:=Wm.h) (R0 d)
def WK.h:Hn:=.q .o1 (.q (.q .o3 .aK) (.q .o6 (.q (.q (.cU (.seq [.op,.op,.op,.cX false 5 (RI.ops 5)])) .aK) (.q (.q .o4 .aK) .aM))))
def WK.v (a:R2)(b:Int)(c:Hp)(d:aN):Prop:=Wm.c a c λe f=>If (!e) (d 5 f) (bG a 0 f λh=>XD.c h f λi j=>bX (λk l=>If k (d 1 l) (YX.c i b l λm n=>If (!(m.toList==(ByteArray.mk #[]).toList)) (d 5 n) (d 0 n))) λo=>If (b<0) (o true j) (XS.c i j λp q r s t u=>o (decide (b≥r)) u))
theorem WK.o {a b c d}(e:WK.v a b c d):WK.c a b c d:=Wa Tryz.func63 (x:=WK.h) (R0 e)
def WB.h:Hn:=.q .o8 (.q .gD (.q .gD (.q (.q .o2 (.c .l .l)) (.q (.cU (.held true [6] (.tk [0,1,2,3,4,5] (.all [(6,.tk [7,8,9,10,11] (.done))])))) (.q (.q .o2 (.c .l .l)) (.q (.q .o4 (.k (.loop [(7,.one .s),(52,.I)] (.q .o1 (.q (.c .l .l) (.q (.k (.q .o3 (.q (.o 12) (.q (.cU (.seq [.op,.op,.op,.cX false 2 [.op,.op]])) (.c .o5 .l))))) .o2)))))) (.kN [] (.q .o3 (.c (.cU (.held true [14] (.tk [0,1,2,3,4,5,6,7] (.all [(8,.take 9 (.all [(10,.all [(11,.take 12 (.take 13 (.all [(14,.done)])))])]))])))) .l)) (.cU (.tail 7 (RI.ops 7) [.op])))))))))
def WB.v (a:R2)(b:Int)(c:Hp)(d:aP):Prop:=bF a 3 c λf=>Ix f.a f.len 0 2 λg=>aQ g 0 c λh=>aQ g 1 c λi=>aV #[.I 0,.I 0] 101 c λj k=>aR j 0 (.I h) k λl=>aR j 1 (.I i) l λm=>bF a 3 m λo=>fI o 2 1 (o.len:Nat) (o.cap:Nat) λp=>Wh.c p m λq r=>bW a λs=>aR s 3 (.slice q.a q.len q.cap) r λt=>aQ j 0 t λu=>WC.c a u t λv w x y z aa=>aV #[.I 0,.I 0,.I 0,.I 0] 48 aa λab ac=>aR ab 0 (.I v) ac λad=>aR ab 1 (.I w) ad λae=>aR ab 2 (.I x) ae λaf=>aR ab 3 (.I y) af λag=>If (!z) (d ag) (dW ag λah=>bW a λai=>aU ah ai 0 λaj=>aS ah j 0 λak=>X2.c aj ak ag λal am an=>If (am != 0) (d an) (aQ ab 0 an λao=>aQ ab 1 an λap=>aQ ab 2 an λaq=>aQ ab 3 an λar=>XY.c ao ap aq ar an λau av=>X8 [.s,bO] (λaw=>aw al 0 av) λax (ay:Sl) (az:Int) a0=>If (az<((au.len:Nat):Int)) (Ix au.a au.len az 1 λa1=>bN a1 a0 λa2=>bG a 0 a0 λa4=>XD.c a4 a0 λa5 a6=>YN.c a5 a2 a6 λa7 a8 a9=>bX (λba bb=>If ba (aV #[.I a2] 3 bb λbc bd=>App ay 1 8 3 [.I 0] ⟨some bc,1,1⟩ bd λbe bf=>bM (az+1) λbg=>ax be bg bf) (bM (az+1) λbh=>ax ay bh bb)) λbi=>If (a8 != 0) (bi true a9) (bi (a7 != (-1234567)) a9)) (Jn [] (λbj=>bG a 0 bj λbl=>aQ j 0 bj λbm=>
 Zj.c bl b bm bj λbn bo=>d bo) λbp=>If (((ay.len:Nat):Int)>0) (dW a0 λbq=>bW a λbr=>aT bq br 4 λbs=>aS bq j 0 λbt=>W6.c ay a0 λbu bv=>And (bq bv) <| aV #[.I bt,.I bu] 62 bv λbw bx=>And (bq bx) <| App bs 2 16 62 [.I 0,.I 0] ⟨some bw,1,1⟩ bx λbz b0=>And (bq b0) <| bW a λb1=>aR b1 4 (.slice bz.a bz.len bz.cap) b0 λb2=>bp b2) (bp a0))))
theorem WB.o {a b c d}(e:WB.v a b c d):WB.c a b c d:=Wa Tryz.func64 (x:=WB.h) (R0 e)
def WT.h:Hn:=.q .o2 (.q .o7 .l)
def WT.v (a:R2)(b:Int)(c:Hp)(d:aO):Prop:=aV #[.I b] 3 c λe f=>bF a 3 f λh=>Wb.c h ⟨115,#[],#[.pointer (some e)]⟩ f λi j=>d i j
theorem WT.o {a b c d}(e:WT.v a b c d):WT.c a b c d:=Wa Tryz.func68 (x:=WT.h) (R0 e)
def WC.h:Hn:=.q .o2 (.q .o6 (.q .o8 (.q (.q .o2 (.c (.q .o3 .l) .l)) (.q .o6 .l))))
def WC.v (a:R2)(b:Int)(c:Hp)(d:Int->Int->Int->Int->Bool->Hp->Prop):Prop:=aV #[.I 0,.I 0,.I 0,.I 0] 48 c λe f=>bG a 0 f λh=>Zb.c h f λi j=>Wf.c i b ⟨117,#[],#[]⟩ j λk l m=>If (!l) (aR e 0 (.I 0) m λn=>aR e 1 (.I 0) n λo=>aR e 2 (.I 0) o λp=>aR e 3 (.I 0) p λq=>aQ e 0 q λr=>aQ e 1 q λs=>aQ e 2 q λt=>aQ e 3 q λu=>d r s t u false q) (Ix i.a i.len k 4 λv=>aQ v 0 m λw=>aQ v 1 m λx=>aQ v 2 m λy=>aQ v 3 m λz=>aR e 0 (.I w) m λaa=>aR e 1 (.I x) aa λab=>aR e 2 (.I y) ab λac=>aR e 3 (.I z) ac λad=>aQ e 0 ad λae=>aQ e 1 ad λaf=>aQ e 2 ad λag=>aQ e 3 ad λah=>d ae af ag ah true ad)
theorem WC.o {a b c d}(e:WC.v a b c d):WC.c a b c d:=Wa Tryz.func69 (x:=WC.h) (R0 e)
def XY.h:Hn:=.q .o2 (.q .o1 (.q (.q .o1 (.k (.loop [(3,.one .s),(4,.I)] (.q (.q .o4 (.c .l .l)) (.q (.k .o8) .o3))))) .aL))
def XY.v (a b c d:Int)(e:Hp)(f:Sl->Hp->Prop):Prop:=aV #[.I a,.I b,.I c,.I d] 48 e λg h=>X8 [.s,bO] (λi=>i ⟨none,0,0⟩ 0 h) λj (k:Sl) (l:Int) m=>aQ g 1 m λn=>If (l<n) (aQ g 0 m λo=>bM (o+l) λp=>aV #[.I p] 3 m λq r=>App k 1 8 3 [.I 0] ⟨some q,1,1⟩ r λs t=>bM (l+8) λu=>j s u t) (f k m)
theorem XY.o {a b c d e f}(g:XY.v a b c d e f):XY.c a b c d e f:=Wa Tryz.func72 (x:=XY.h) (R0 g)
def WJ.h:Hn:=.q .o3 (.q .o7 .l)
def WJ.v (a:R2)(b:Int)(c:Hp)(d:aO):Prop:=aV #[.pointer a] 33 c λe f=>aV #[.I b] 3 f λg h=>fY e h λi=>bF i 3 h λk=>Wb.c k ⟨121,#[],#[.pointer (some e),.pointer (some g)]⟩ h λl m=>d l m
theorem WJ.o {a b c d}(e:WJ.v a b c d):WJ.c a b c d:=Wa Tryz.func75 (x:=WJ.h) (R0 e)
def W4.h:Hn:=.q .o2 (.q .o5 .l)
def W4.v (a b:Int)(c:Addr)(d:Hp)(e:aO):Prop:=aV #[.I a,.I b] 101 d λf g=>aQ f 0 g λh=>bN c g λi=>e (h==i) g
theorem W4.o {a b c d e}(f:W4.v a b c d e):W4.c a b c d e:=Wa Tryz.func115 (x:=W4.h) (R0 f)
def WX.h:Hn:=.q .o2 (.q .o5 .l)
def WX.v (a b c d e:Int)(f:Hp)(g:aN):Prop:=aV #[.I a,.I b,.I c,.I d] 48 f λh i=>aQ h 0 i λj=>bM (j-e) λk=>g k i
theorem WX.o {a b c d e f g}(h:WX.v a b c d e f g):WX.c a b c d e f g:=Wa Tryz.func117 (x:=WX.h) (R0 h)
def WW.h:Hn:=.q .o2 (.q .gD (.q (.cU (.gP true [] [(4,.one .b)] (.take 0 (.take 1 (.split 15 (.take 2 (.take 4 (.all [(3,.all [(5,.take 6 (.take 7 (.done)))])]))) (.take 2 (.take 3 (.take 4 (.take 5 (.take 6 (.take 7 (.done)))))))))))) .l))
def WW.v (a b:Int)(c d:Addr)(e:Hp)(f:aO):Prop:=aV #[.I a,.I b] 101 e λg h=>fY c h λi=>aQ g 0 h λj=>WC.c i j h λk l m n o p=>aV #[.I 0,.I 0,.I 0,.I 0] 48 p λq r=>aR q 0 (.I k) r λs=>aR q 1 (.I l) s λt=>aR q 2 (.I m) t λu=>aR q 3 (.I n) u λv=>Jn [.b] (λ(w:Bool) x=>f w x) λy=>dW v λz=>If o (aS z q 0 λaa=>aS z q 1 λab=>aS z q 2 λac=>aS z q 3 λad=>gN z bO d λ(ae:Int)=>XY.c aa ab ac ad v λaf ag=>And (z ag) <| Ww.c af ae ag λah ai=>And (z ai) <| y ah ai) (y false v)
theorem WW.o {a b c d e f}(g:WW.v a b c d e f):WW.c a b c d e f:=Wa Tryz.func121 (x:=WW.h) (R0 g)
end Go.Proofs
namespace Go.Ar
open Go Go.Vc Go.Proofs
open Go.Vc (bU dA cO)
variable {U σ0 v w w':Hp}{F P Q X T:Rg}{L:dE}{H H' H1:Hw}{held:List Pc}{s0 sp:Sp}{t n:Nat}{gb km fm m:Nat}{x y:Gu}{b:B5}
abbrev P2:=Int×Int
def lz (e:P2):List Value:=[.int .i64 e.1,.int .i64 e.2]
def gQ (l:List P2):List Value:=l.flatMap lz
theorem UQ (l:List P2):(gQ l).length=l.length*2:=by
 induction l with
 | nil=>rfl
 | cons e l ih=>simp only[gQ,pA,zK,zS,lz,lA]at *;omega
theorem BI:∀{l:List P2} {i:Nat} {e:P2},l[i]?=some e->∀{d:Nat},d<2->(gQ l)[2*i+d]?=(lz e)[d]?
 | [],_,_,h,_,_=>by simp at h
 | y::l,0,e,h,d,hd=>by
  simp at h;subst h;have e1:gQ (y::l)=lz y++gQ l:=by simp[gQ]
  have a:(lz y).length=2:=rfl;rw[e1,zd O];congr 1;omega
 | y::l,i+1,e,h,d,hd=>by
  have e1:gQ (y::l)=lz y++gQ l:=by simp[gQ]
  have a:(lz y).length=2:=rfl;rw[e1,zp O,a,show 2*(i+1)+d-2=2*i+d by omega];exact BI (by simpa using h) hd
theorem E0:∀(l:List P2) (n:Nat),gQ (l.drop n)=(gQ l).drop (n*2)
 | l,0=>by simp
 | [],n+1=>by simp[gQ]
 | y::l,n+1=>by
  have e1:gQ (y::l)=lz y++gQ l:=by simp[gQ]
  have a:(lz y).length=2:=rfl;rw[vz,e1,E0 l n,List.drop_append,BS (l:=lz y) O,a,show(n+1)*2-2=n*2 by omega,tz]
theorem IC:∀(l:List P2),∀v∈gQ l,dY v=true:=by
 intro l v a;simp only[gQ,List.mem_flatMap,lz]at a;obtain⟨e,_,a⟩:=a;simp at a;rcases a with rfl|rfl<;>rfl
structure Qu where
 bl:Int
 by':Int
 q:List P2
 rs:List P2
def gH (l:List P2):Int:=(l.map (·.2)).sum
structure nV (q:Qu):Prop where
 bl:0<=q.bl/\q.bl<=64
 by':0<=q.by'/\q.by'<=16384
 ql:q.q.length<=66
 qs:∀e∈q.q,1<=e.2/\e.2<=1024
 rl:q.rs.length<=10000
def UH (q:Qu):Bool:=decide ((q.q.length:Int)>q.bl)||decide (gH q.q>q.by')
theorem Mo (e:P2)(l:List P2):gH (e::l)=e.2+gH l:=by simp[gH]
theorem Bn (l:List P2)(e:P2):gH (l++[e])=gH l+e.2:=by simp[gH]
theorem CZ {l:List P2}(h:∀e∈l,1<=e.2/\e.2<=1024):0<=gH l/\gH l<=l.length*1024:=by
 induction l with
 | nil=>simp[gH]
 | cons e l ih=>
  have b:=h e mO;have d:=ih λe a=>h e (mc _ a);rw[Mo,zS];omega
def tf (sp:Sp)(b:B5):List Int:=(XR b).filter λz=>eO sp z != 0||Q1 sp z != HX
def Kw (H:Hw)(b:B5):List Int:=QV H.sp b++tf H.sp b
def lp:List Int->Int
 | []=>0
 | a::l=>l.foldl (λm z=>if z<m then z else m) a
inductive gG (thread:Int) (H:Hw) (x:Gu) (q:Qu):Hw->Gu->Qu->Prop where
 | none {e:P2} {r:List P2}:q.q=e::r->(bU x.kn e.1=none\/kU H x e.1≠0)->gG thread H x q H x {q with q:=r}
 | stay {e:P2} {r:List P2} {b:B5}:q.q=e::r->bU x.kn e.1=some b->kU H x e.1=0->l6 H x thread e.1 false≠0->gG thread H x q H x ⟨q.bl,q.by',r,if Kw H b=[]then q.rs else q.rs++[(e.1,lp (Kw H b))]⟩
 | free {e:P2} {r:List P2} {b:B5} {H1:Hw} {er:Int}:q.q=e::r->bU x.kn e.1=some b->kU H x e.1=0->l6 H x thread e.1 false=0->KM (dO H b) thread 1 0 0 b.2.2.1 H1 0 er->fT (dO H b) H1->nO (dO H b) thread b.2.2.1 H1 er →
  gG thread H x q H1 (x.gone e.1) ⟨q.bl,q.by',r,if Kw H b=[]then q.rs else q.rs++[(e.1,lp (Kw H b))]⟩
inductive iK (thread:Int):Hw->Gu->Qu->Hw->Gu->Qu->Prop where
 | stop {H:Hw} {x:Gu} {q:Qu}:UH q=false->iK thread H x q H x q
 | next {H H1 H':Hw} {x x1 x':Gu} {q q1 q':Qu}:UH q=true->gG thread H x q H1 x1 q1->iK thread H1 x1 q1 H' x' q'->iK thread H x q H' x' q'
inductive iB (thread:Int):Hw->Gu->Qu->Hw->Gu->Qu->Prop where
 | stop {H:Hw} {x:Gu} {q:Qu}:q.q=[]->iB thread H x q H x q
 | next {H H1 H':Hw} {x x1 x':Gu} {q q1 q':Qu}:gG thread H x q H1 x1 q1->iB thread H1 x1 q1 H' x' q'->iB thread H x q H' x' q'
def wz (gb:Nat)(q:Qu)(qs rs:Sl):List Value:=[.pointer (some ⟨gb,0,none⟩),.int .i64 q.bl,.int .i64 q.by',.slice qs.a qs.len qs.cap,.slice rs.a rs.len rs.cap]
def ku (P:Rg)(gb km fm qb:Nat)(Qq Qr:Rg):Rg:=λb=>Mg P gb km fm b\/b=qb\/Qq b\/Qr b
structure QP (σ0 U:Hp) (L:dE) (H:Hw) (held:List Pc) (s0:Sp) (P:Rg) (gb km fm:Nat) (x:Gu) (qb:Nat) (Qq Qr:Rg) (qs rs:Sl) (q:Qu):Prop where
 p:GP σ0 U L H held s0 P gb km fm x
 b:bY U qb (wz gb q qs rs)
 rq:bT qs 2 (gQ q.q) U Qq
 rr:bT rs 2 (gQ q.rs) U Qr
 td:σ0.size<=qb/\¬Mg P gb km fm qb/\¬Qq qb/\¬Qr qb
 qq:∀b,Qq b->σ0.size<=b/\b<U.size/\¬Mg P gb km fm b
 qr:∀b,Qr b->σ0.size<=b/\b<U.size/\¬Mg P gb km fm b
 dj:∀b,Qq b->¬Qr b
 i:nV q
variable {qb:Nat}{Qq Qr:Rg}{qs rs:Sl}{q:Qu}
theorem QP.fr (o:QP σ0 U L H held s0 P gb km fm x qb Qq Qr qs rs q)(e:aF U w):QP σ0 w L H held s0 P gb km fm x qb Qq Qr qs rs q:=
 ⟨o.p.fr e,e.bV o.b id,aI.bP o.rq e,aI.bP o.rr e,o.td,λb a=>by have h:=o.qq b a;have:=e.1;exact⟨h.1,O,h.2.2⟩,λb a=>by have h:=o.qr b a;have:=e.1;exact⟨h.1,O,h.2.2⟩,o.dj,o.i⟩
theorem QP.fB (o:QP σ0 U L H held s0 P gb km fm x qb Qq Qr qs rs q){L':dE}{held':List Pc}{s0':Sp}{P':Rg}(e:Ext (Mg P gb km fm) U w)(p':GP σ0 w L' H' held' s0' P' gb km fm y)(hP:∀b,P' b->P b\/U.size<=b) :
 QP σ0 w L' H' held' s0' P' gb km fm y qb Qq Qr qs rs q:=by
 have E:=e.1;have d:=o.b.lt;obtain⟨A,s,z,B⟩:=o.td;have g:∀b,b<U.size->¬Mg P gb km fm b->¬Mg P' gb km fm b:=λb D C u=>by
  rcases Fi ⟨o.p.b.lt,o.p.m.lt,o.p.f.lt⟩ hP b u with h4|h4
  ·exact C h4
  ·omega
 exact⟨p',e.bV o.b s,aI.bS o.rq e λb _ a r=>(o.qq b a).2.2 r,aI.bS o.rr e λb _ a r=>(o.qr b a).2.2 r,⟨A,g _ d s,z,B⟩,λb j=>by have h:=o.qq b j;exact⟨h.1,O,g b h.2.1 h.2.2⟩,λb j=>by have h:=o.qr b j;exact⟨h.1,O,g b h.2.1 h.2.2⟩,o.dj,o.i⟩
theorem QP.out (o:QP σ0 U L H held s0 P gb km fm x qb Qq Qr qs rs q)(e:Ext T U w)(hT:∀b,b<U.size->T b->¬ku P gb km fm qb Qq Qr b/\σ0.size<=b):QP σ0 w L H held s0 P gb km fm x qb Qq Qr qs rs q:=by
 have s:=e.1;have m:=o.b.lt;refine⟨o.p.out e λb a d=>?_,e.bV o.b λd=>(hT qb m d).1 (.inr (.inl rfl)),aI.bS o.rq e λb a j d=>(hT b a d).1 (.inr (.inr (.inl j))),aI.bS o.rr e λb a j d=>(hT b a d).1 (.inr (.inr (.inr j))),o.td,λb a=>by have h:=o.qq b a;exact⟨h.1,O,h.2.2⟩,λb a=>by have h:=o.qr b a;exact⟨h.1,O,h.2.2⟩,o.dj,o.i⟩;have h:=hT b a d;have g:=VC λr=>h.1 (.inl r);exact⟨g.1,g.2.1,g.2.2.1,g.2.2.2,h.2⟩
theorem QP.wO (o:QP σ0 U L H held s0 P gb km fm x qb Qq Qr qs rs q){s':Sl}{l':List P2}{Q':Rg}(e:Ext Qq U w)(hr:bT s' 2 (gQ l') w Q')(hQ:∀b,Q' b->Qq b\/U.size<=b/\b<w.size)(hi:nV {q with q:=l'}){K:aP}
 (hK:∀u,Ext (· = qb) w u->QP σ0 u L H held s0 P gb km fm x qb Q' Qr s' rs {q with q:=l'}->K u):dQ (Addr.add ⟨qb,0,none⟩ 3) (.slice s'.a s'.len s'.cap) w K:=by
 have M:=e.1;have F:=o.b.lt;obtain⟨s,C,y,z⟩:=o.td;have G:=o.p.out e λb _ d=>by have h:=o.qq b d;have g:=VC h.2.2;exact⟨g.1,g.2.1,g.2.2.1,g.2.2.2,h.1⟩
 have r:=aI.bS o.rr e λb _ i E=>o.dj b E i;refine(e.bV o.b y).s1 (by simp[wz]) λu A b=>?_;have j:=A.ext;have J:=A.1;have g:=VC C;have B:¬Q' qb:=λh=>by
  rcases hQ qb h with h|h
  ·exact y h
  ·omega
 refine hK u j ⟨G.out j λb _ (d:b=qb)=>by subst d;exact⟨g.1,g.2.1,g.2.2.1,g.2.2.2,s⟩,b,aI.bS hr j λb _ m (d:b=qb)=>B (d▸m),aI.bS r j λb _ m (d:b=qb)=>z (d▸m),⟨s,C,B,z⟩,λb d=>?_,λb d=>by have h:=o.qr b d;exact⟨h.1,O,h.2.2⟩,λb d i=>?_,hi⟩
 ·rcases hQ b d with d|d
  ·have h:=o.qq b d;exact⟨h.1,O,h.2.2⟩
  ·have:=o.p.e.1;exact⟨O,O,λD=>by have:=tH o.p D;omega⟩
 ·rcases hQ b d with d|d
  ·exact o.dj b d i
  ·have:=(o.qr b i).2.1;omega
theorem QP.gF (o:QP σ0 U L H held s0 P gb km fm x qb Qq Qr qs rs q){s':Sl}{l':List P2}{Q':Rg}(e:Ext Qr U w)(hr:bT s' 2 (gQ l') w Q')(hQ:∀b,Q' b->Qr b\/U.size<=b/\b<w.size)(hi:nV {q with rs:=l'}){K:aP}
 (hK:∀u,Ext (· = qb) w u->QP σ0 u L H held s0 P gb km fm x qb Qq Q' qs s' {q with rs:=l'}->K u):dQ (Addr.add ⟨qb,0,none⟩ 4) (.slice s'.a s'.len s'.cap) w K:=by
 have M:=e.1;have F:=o.b.lt;obtain⟨s,C,y,z⟩:=o.td;have G:=o.p.out e λb _ d=>by have h:=o.qr b d;have g:=VC h.2.2;exact⟨g.1,g.2.1,g.2.2.1,g.2.2.2,h.1⟩
 have r:=aI.bS o.rq e λb _ i E=>o.dj b i E;refine(e.bV o.b z).s1 (by simp[wz]) λu A b=>?_;have j:=A.ext;have J:=A.1;have g:=VC C;have B:¬Q' qb:=λh=>by
  rcases hQ qb h with h|h
  ·exact z h
  ·omega
 refine hK u j ⟨G.out j λb _ (d:b=qb)=>by subst d;exact⟨g.1,g.2.1,g.2.2.1,g.2.2.2,s⟩,b,aI.bS r j λb _ m (d:b=qb)=>y (d▸m),aI.bS hr j λb _ m (d:b=qb)=>B (d▸m),⟨s,C,y,B⟩,λb d=>by have h:=o.qq b d;exact⟨h.1,O,h.2.2⟩,λb d=>?_,λb d i=>?_,hi⟩
 ·rcases hQ b d with d|d
  ·have h:=o.qr b d;exact⟨h.1,O,h.2.2⟩
  ·have:=o.p.e.1;exact⟨O,O,λD=>by have:=tH o.p D;omega⟩
 ·rcases hQ b i with i|i
  ·exact o.dj b d i
  ·have:=(o.qq b d).2.1;omega
theorem Iz (o:QP σ0 U L H held s0 P gb km fm x qb Qq Qr qs rs q){c:Nat}(h:ku P gb km fm qb Qq Qr c):σ0.size<=c/\c<U.size:=by
 rcases h with h|rfl|h|h
 ·refine⟨?_,tH o.p h⟩;rcases h with h|rfl|rfl|rfl
  ·exact(o.p.pP c h).1
  ·exact o.p.r7.1
  ·exact o.p.sD.1
  ·exact o.p.tn.1
 ·exact⟨o.td.1,o.b.lt⟩
 ·have:=o.qq c h;exact⟨this.1,this.2.1⟩
 ·have:=o.qr c h;exact⟨this.1,this.2.1⟩
theorem uK {s:Sl}{l:List P2}(hs:cV s 2 (gQ l) U F){i:Nat}{e:P2}(hb:l[i]?=some e){K:Addr->Prop}(hK:∀bb o,(∀(j:Nat) v,(lz e)[j]?=some v->cell U ⟨bb,o+j,none⟩=some v)->K ⟨bb,o,none⟩):Ix s.a s.len (i:Int) 2 K:=by
 have u:=(cY.1 hb).1;have y:s.len=l.length:=by have:=hs.1;rw[UQ]at this;omega
 obtain⟨b,o,m,_⟩:=hs.cell (j:=2*i+0) (v:=.int .i64 e.1) ((BI hb O).trans rfl);rw[m];refine ix O O ?_;rw[add_lit];refine hK b _ λj v g=>?_;have p:j<2:=(cY.1 g).1;obtain⟨w,x,d,r⟩:=hs.cell ((BI hb p).trans g);rw[m]at d;cases d;rw[show o+(i:Int).toNat*2+j=o+(2*i+j) by omega];exact r
theorem _root_.Go.Vc.bT.kL {s:Sl}{l:List P2}(h:bT s 2 (gQ l) U F):s.len=l.length:=by have:=h.1;rw[UQ]at this;omega
theorem uk {ty:Nat}{a c:Int}{K:Addr->Hp->Prop}(hK:∀w',aF U w'->w'.size=U.size+1->bY w' U.size [.int .i64 a,.int .i64 c]->K ⟨U.size,0,none⟩ w'):Nw (.cells #[.int .i64 0,.int .i64 0] ty (0,0)) U λn v20=>dQ (n.add 0) (.int .i64 a) v20 λv21=>dQ (n.add 1) (.int .i64 c) v21 λv22=>K n v22:=
 nw (cs:=[.int .i64 0,.int .i64 0]) λv20 r m g=>g.s1 aA λv21 b p=>p.s1 aA λv22 d j=>
  hK v22 (Ext.fresh m (b.ext.trans d.ext) λi (hi:i=U.size)=>O) (by have:=b.1;have:=d.1;omega) j
theorem nS {ty:Nat}{a b c d:Int}{K:Addr->Hp->Prop}(hK:∀w',aF U w'->bY w' U.size (lh (a,b,c,d))->K ⟨U.size,0,none⟩ w'):Nw (.cells #[.int .i64 0,.int .i64 0,.int .i64 0,.int .i64 0] ty (0,0)) U λn v20=>dQ (n.add 0) (.int .i64 a) v20 λv21=>dQ (n.add 1) (.int .i64 b) v21 λv22=>dQ (n.add 2) (.int .i64 c) v22 λv23=>dQ (n.add 3) (.int .i64 d) v23 λv24=>K n v24:=
 nw (cs:=[.int .i64 0,.int .i64 0,.int .i64 0,.int .i64 0]) λv20 z s m=>m.s1 aA λv21 g y=>y.s1 aA λv22 j r=>r.s1 aA λv23 p x=>x.s1 aA λv24 u w=>
  hK v24 (Ext.fresh s (((g.ext.trans j.ext).trans p.ext).trans u.ext) λi (hi:i=U.size)=>O) w
theorem IU {s:Sl}{l:List P2}(hr:bT s 2 (gQ l) U Q)(hl:l.length<=100000)(k:P2){S:aP}(hS0:∀u,aF U u->S u){e t:Nat}{K:Sl->Hp->Prop}
 (hK:∀s' w,Ext Q U w->bT s' 2 (gQ (l++[k])) w (λb=>Q b\/U.size<=b/\b<w.size)->S w/\K s' w) :
 Nw (.cells #[.int .i64 k.1,.int .i64 k.2] t (0,0)) U λn v=>And (S v)<|App s 2 16 e [.int .i64 0,.int .i64 0] ⟨some n,1,1⟩ v λs' w=>And (S w)<|K s' w:=by
 have z:=hr.kL;refine nw (cs:=lz k) λv p e1 g=>⟨hS0 v e1,?_⟩;have d:=aI.bP hr e1;refine d.app (ys:=lz k) rfl (by simp[lz]) ?_ (by simp[lz,dY]) ?_ ?_ nh λs' h' m i a=>?_
 ·intro j u hu;rw[add_lit,zH,g.cell];exact hu
 ·simp only;omega
 ·simp only;omega
 ·have y:Ext Q U h':=e1.to.trans i;refine hK s' h' y ?_;have:gQ (l++[k])=gQ l++lz k:=by simp[gQ]
  rw[this];refine aI.mono (aI.cut a) λb x r=>?_;rcases r.1 with h1|h1
  ·exact .inl h1
  ·exact .inr ⟨O,x⟩
end Go.Ar