/- Texts joined. -/
import Derived.Shelf.SlSortCmp.NoneTotal
import Derived.Ground.SlsfProg
import Derived.Test.YtoeidadjhkkioaaGreatDoorProg
import Derived.Shelf.SlIterI.Nil
import Derived.Ground.GgzProg
import Derived.Test.YtoeidadjhkkioaaGreatDoorC6
set_option linter.unusedVariables false
set_option linter.unusedSimpArgs false
namespace Go.Ar
open Go Go.Vc Go.Proofs
variable {U w:Hp}
def mH:Nat->Int->Int->List T3
 | 0,_,_=>[]
 | n+1,s,w=>if s<512 then lb s w::mH n (s+yk s w) w else[]
def allM (w:Int):List T3:=mH 64 8 w++[lb 512 w]
def oJ (l:List T3)(i:Nat):Bool:=i==l.length-1||(match l[i]?,l[i+1]? with
 | some x,some y=>x.2.1 != y.2.1||mZ x != mZ y
 | _,_=>false)
def l9 (l:List T3)(n:Nat):List T3:=(List.range n).filterMap λi=>if oJ l i then l[i]? else none
def qR (w:Int):List T3:=l9 (allM w) (allM w).length
def uF (x:T3):Prop:=8<=x.1/\x.1<=512/\1<=x.2.1/\x.2.1<=4
theorem IT (s w:Int)(h1:8<=s)(h2:s<=512):uF (lb s w):=⟨h1,h2,Ti s w 4⟩
theorem ur {Q:Rg}{s:Sl}{l:List T3}{e1 e2:Nat}(ho:Go.Vc.Own Q U s 3 (lK l))(hQ:∀b,U.size<=b->Q b)(hl:l.length<=1000)(x:T3){K:Sl->Hp->Prop}(hK:∀s' σ',Ext Q U σ'->Go.Vc.Own Q σ' s' 3 (lK (l++[x]))->K s' σ') :
 Nw (.cells #[.int .i64 x.1,.int .i64 x.2.1,.int .i64 x.2.2] e1 (0,0)) U λn20 v3=>App s 3 24 e2 [.int .i64 0,.int .i64 0,.int .i64 0] ⟨some n20,1,1⟩ v3 K:=by
 have i:s.len=l.length:=by have:=ho.1;rw[CZ]at this;omega
 refine nw (cs:=v3 x) λv p e a=>?_;refine(ho.bP e).app (ys:=v3 x) (λb a=>hQ b O) rfl rfl ?_ (by simp[v3,dX]) ?_ ?_ nr λs' g _ m d _=>hK s' g ?_ ?_
 ·intro j u hu;rw[add_lit,zH,a.cell];exact hu
 ·simp only;have:(s.len+1)*24<=1001*24:=my O O;omega
 ·simp only;omega
 ·exact(aF.to e).trans (m.sub λb a=>((ho.bP e).jr a).1)
 ·rw[LQ];exact d
theorem Δ (w:Int)(h:w<2\/16<w){R:Sl->Int->Hp->Prop}(hR:R ⟨none,0,0⟩ 1 U):Xi.c w U R:=by
 refine Xi.o ?_;unfold Xi.v;exact bX.intro (cN (λa=>cF rfl hR) λa=>cF (zI O) hR)
theorem F7 (w:Int)(hw1:2<=w)(hw2:w<=16){R:Sl->Int->Hp->Prop}(hR:∀s' σ',aF U σ'->ik σ' s' (qR w)->R s' 0 σ'):Xi.c w U R:=by
 refine Xi.o ?_;unfold Xi.v;refine bX.intro (gg O (cD (zL O) ?_));refine Uo (a:=.s) (bb:=bO) (λ(all:Sl) (s:Int) u=>∃(n:Nat) (done:List T3),8<=s/\s<=768/\aF U u/\Go.Vc.Own (λb=>U.size<=b) u all 3 (lK done)/\done++mH n s w=mH 64 8 w/\512<=s+8*(n:Int)/\(∀x∈done,uF x)/\done.length+n=64) (λ_ s _=>1000-s.toNat) ⟨64,[],O,O,Ext.refl _ _,Own.nil _ _ _,rfl,O,by simp,by simp⟩ ?_;rintro(all:Sl) (s:Int) u ⟨n,done,hs1,hs2,eu,ho,hdone,hn,hok,hlen⟩;refine cN (λP=>?_) λY=>?_
 ·obtain⟨n,rfl⟩:∃m,n=m+1:=⟨n-1,O⟩;refine F3 s w O O hw1 hw2 λv2 e2=>?_;refine ur (ho.bP e2) (λb F=>by have:=eu.1;have:=e2.1;omega) O (lb s w) λall1 v4 e4 h4=>?_;have e04:aF U v4:=Ext.dW (eu.trans e2) e4 λb F=>.inr F;refine Oi s w O O hw1 λd1 d2=>ar O O ⟨⟨n,done++[lb s w],O,O,e04,h4,?_,O,λx C=>?_,by simp;omega⟩,O⟩
  ·rw[←hdone,zl]
   congr 1
   conv=>rhs;rw[mH,zC P]
   rfl
  ·rcases zM.1 C with h1|h1
   ·exact hok x h1
   ·rw[zN]at h1;subst h1;exact IT s w O O
 ·have S:mH n s w=[]:=by
   cases n with
   | zero=>rfl
   | succ n=>rw[mH,zB Y]
  rw[S,kC]at hdone;refine F3 512 w O O hw1 hw2 λv6 e6=>?_;refine ur (ho.bP e6) (λb F=>by have:=eu.1;have:=e6.1;omega) O (lb 512 w) λg v8 e8 L=>?_;have e08:aF U v8:=Ext.dW (eu.trans e6) e8 λb F=>.inr F;rw[hdone]at L;have A:∀x∈allM w,uF x:=λx C=>by
   rcases zM.1 C with h1|h1
   ·rw[←hdone]at h1;exact hok x h1
   ·rw[zN]at h1;subst h1;exact IT 512 w O O
  have hml:(allM w).length<=65:=by unfold allM;rw[←hdone];simp;omega
  have L:Go.Vc.Own (λb=>U.size<=b) v8 g 3 (lK (allM w)):=L;generalize hall:allM w=l at L A hml;have hmk:qR w=l9 l l.length:=by unfold qR;rw[hall]
  have hl2:g.len=l.length:=by have:=L.1;rw[CZ]at this;omega
  refine Uo (a:=.s) (bb:=bO) (λ(out:Sl) (z:Int) u=>∃i:Nat,z=(i:Int)/\i<=l.length/\aF v8 u/\Go.Vc.Own (λb=>v8.size<=b) u out 3 (lK (l9 l i))/\(l9 l i).length<=i) (λ_ z _=>l.length-z.toNat) ⟨0,rfl,O,Ext.refl _ _,Own.nil _ _ _,by simp[l9]⟩ ?_;rintro(out:Sl) (z:Int) u ⟨i,rfl,hi,eu8,hout,hol⟩;refine cN (λP=>?_) λY=>?_
  ·have hi':i<l.length:=by omega
   have C:l[i]?=some l[i]:=cW hi';generalize l[i]=x at C;have E:=A x (zG C);have j:l9 l (i+1)=l9 l i++(if oJ l i then[x]else[]):=by
    unfold l9;rw[oU,xq]
    congr 1
    by_cases hk:oJ l i=true
    ·simp[hk,C]
    ·simp[hk]
   have hA:∀m,aF u m->ik m g l:=λm d=>EC (L.bP (eu8.trans d));refine AK (λr u'=>aF u u'/\r=oJ l i) (λr u' ⟨B,Z⟩=>?_) λJ3 J=>?_
   ·have W:=hout.bP B;cases hk:oJ l i with
    | true=>
     rw[hk]at Z j;refine cF Z (Au (hA u' B) C ?_);refine ur W (λb F=>by have:=eu8.1;have:=B.1;omega) O x λout1 v12 e12 h12=>?_;refine cT (m:=i+1) O O ⟨⟨i+1,rfl,O,Ext.dW (eu8.trans B) e12 λb F=>.inr F,?_,?_⟩,O⟩
     ·rw[j];exact h12
     ·rw[j];simp;omega
    | false=>
     rw[hk]at Z j;refine cD Z (cT (m:=i+1) O O ⟨⟨i+1,rfl,O,eu8.trans B,?_,?_⟩,O⟩)
     ·rw[j];simpa using W
     ·rw[j];simp;omega
   ·refine⟨λm=>aF u m,Ext.refl _ _,ar O O ?_⟩;refine cR (λH=>J _ _ ⟨Ext.refl _ _,?_⟩) λhnl=>?_
    ·have:i=l.length-1:=by simp only[zU]at H;omega
     unfold oJ;rw[this];simp
    ·have hi2:i+1<l.length:=by simp only[mI]at hnl;omega
     have hy:l[i+1]?=some l[i+1]:=cW hi2;generalize l[i+1]=y at hy;have D:=A y (zG hy);have V:oJ l i=(x.2.1 != y.2.1||mZ x != mZ y):=by
      unfold oJ;rw[C,hy];have:(i==l.length-1)=false:=by simp only[mI];omega
      rw[this];rfl
     have N:=λ(m:Hp) (d:aF u m)=>(hA m d).2 i x.1 x.2.1 x.2.2 C;have hcy:=λ(m:Hp) (d:aF u m)=>(hA m d).2 (i+1) y.1 y.2.1 y.2.2 hy;obtain⟨b,o,ha,_,_⟩:=N u (Ext.refl _ _);have rx:∀m,aF u m->cell m ⟨b,o+i*3,none⟩=some (.int .i64 x.1)/\cell m ⟨b,o+i*3+1,none⟩=some (.int .i64 x.2.1)/\cell m ⟨b,o+i*3+2,none⟩=some (.int .i64 x.2.2):=λm d=>by
      obtain⟨b',o',p,_,h⟩:=N m d;rw[ha]at p;cases p;exact h
     have ry:∀m,aF u m->cell m ⟨b,o+(i+1)*3,none⟩=some (.int .i64 y.1)/\cell m ⟨b,o+(i+1)*3+1,none⟩=some (.int .i64 y.2.1)/\cell m ⟨b,o+(i+1)*3+2,none⟩=some (.int .i64 y.2.2):=λm d=>by
      obtain⟨b',o',p,_,h⟩:=hcy m d;rw[ha]at p;cases p;exact h
     have M:∀{K:Addr->Prop},K ⟨b,o+i*3,none⟩->Ix g.a g.len (i:Int) 3 K:=λhK=>by
      rw[ha];exact ix O O (by rw[add_lit,dG];exact hK)
     have X:∀{K:Addr->Prop},K ⟨b,o+(i+1)*3,none⟩->Ix g.a g.len ((i+1:Nat):Int) 3 K:=λhK=>by
      rw[ha];exact ix O O (by rw[add_lit,dG];exact hK)
     refine M ⟨x.2.1,λm d=>by rw[add_lit];exact(rx m d).2.1,cT (m:=i+1) O O (X ⟨y.2.1,λm d=>by rw[add_lit];exact(ry m d).2.1,?_⟩)⟩;refine cR (λhp=>J _ _ ⟨Ext.refl _ _,by rw[V,hp];rfl⟩) λhp=>?_;refine M ⟨x.1,λm d=>by rw[add_lit];exact(rx m d).1,⟨x.2.1,λm d=>by rw[add_lit];exact(rx m d).2.1,⟨x.2.2,λm d=>by rw[add_lit];exact(rx m d).2.2,?_⟩⟩⟩;refine cT (m:=i+1) O O (X ⟨y.1,λm d=>by rw[add_lit];exact(ry m d).1,⟨y.2.1,λm d=>by rw[add_lit];exact(ry m d).2.1,⟨y.2.2,λm d=>by rw[add_lit];exact(ry m d).2.2,?_⟩⟩⟩);refine IG x E.1 E.2.1 E.2.2.1 E.2.2.2 λv13 G=>⟨G,IG y D.1 D.2.1 D.2.2.1 D.2.2.2 λv14 Q=>⟨G.trans Q,J _ _ ⟨G.trans Q,by rw[V,hp];rfl⟩⟩⟩
  ·have hil:i=l.length:=by omega
   subst hil;refine hR out u (e08.trans eu8) ?_;rw[hmk];exact EC hout
theorem Gj:∀w:Nat,2<=w->w<=16->Q0 (qR (w:Int))=true:=by
 have h:((List.range 17).all λw=>decide (w<2)||Q0 (qR (w:Int)))=true:=by decide +kernel
 intro w h1 h2;have:=kh.1 h w (zg.2 O);simp only[nT,zV]at this;exact this.resolve_left O
end Go.Ar
namespace Go.Proofs
open Go.Shelf
def Tryz.eX:Go.Shelf.Ren:=⟨fun|6=>297|15=>160|14=>323|28=>224|29=>225|20=>344|21=>345|22=>346|23=>347|24=>348|25=>349|26=>350|27=>351|46=>357|47=>276|48=>277|49=>358|50=>359|57=>361|n=>n,fun|22=>141|24=>147|25=>369|3=>3|39=>230|0=>0|53=>311|55=>313|4=>4|46=>304|45=>303|50=>171|5=>5|9=>9|66=>353|70=>357|76=>383|77=>384|n=>n,fun|n=>n⟩
theorem Tryz.pO:Go.Proofs.SlLaysF0.n6 Tryz.prog Tryz.eX:={
 mixed:=by kernel_rfl
 f6:=⟨Tryz.f297.name,by decide,Tryz.func297.trans (congrArg some (by kernel_rfl))⟩
 f14:=⟨Tryz.f323.name,by decide,Tryz.func323.trans (congrArg some (by kernel_rfl))⟩
 f15:=Tryz.func160.trans (congrArg some (by kernel_rfl))
 f20:=⟨Tryz.f344.name,by decide,Tryz.func344.trans (congrArg some (by kernel_rfl))⟩
 f21:=⟨Tryz.f345.name,by decide,Tryz.func345.trans (congrArg some (by kernel_rfl))⟩
 f22:=⟨Tryz.f346.name,by decide,Tryz.func346.trans (congrArg some (by kernel_rfl))⟩
 f23:=⟨Tryz.f347.name,by decide,Tryz.func347.trans (congrArg some (by kernel_rfl))⟩
 f24:=⟨Tryz.f348.name,by decide,Tryz.func348.trans (congrArg some (by kernel_rfl))⟩
 f25:=⟨Tryz.f349.name,by decide,Tryz.func349.trans (congrArg some (by kernel_rfl))⟩
 f26:=⟨Tryz.f350.name,by decide,Tryz.func350.trans (congrArg some (by kernel_rfl))⟩
 f27:=⟨Tryz.f351.name,by decide,Tryz.func351.trans (congrArg some (by kernel_rfl))⟩
 f28:=Tryz.func224.trans (congrArg some (by kernel_rfl))
 f29:=Tryz.func225.trans (congrArg some (by kernel_rfl))
 f46:=⟨Tryz.f357.name,by decide,Tryz.func357.trans (congrArg some (by kernel_rfl))⟩
 f47:=Tryz.func276.trans (congrArg some (by kernel_rfl))
 f48:=Tryz.func277.trans (congrArg some (by kernel_rfl))
 f49:=⟨Tryz.f358.name,by decide,Tryz.func358.trans (congrArg some (by kernel_rfl))⟩
 f50:=⟨Tryz.f359.name,by decide,Tryz.func359.trans (congrArg some (by kernel_rfl))⟩
 f57:=⟨Tryz.f361.name,by decide,Tryz.func361.trans (congrArg some (by kernel_rfl))⟩
 t0:=Tryz.underlying0
 a0:=Tryz.isAgg0
 z0:=Tryz.sizeOf0
 v0:=Tryz.zeroValue0
 t3:=Tryz.underlying3
 a3:=Tryz.isAgg3
 z3:=Tryz.sizeOf3
 v3:=Tryz.zeroValue3
 t4:=Tryz.underlying4
 a4:=Tryz.isAgg4
 z4:=Tryz.sizeOf4
 v4:=Tryz.zeroValue4
 t5:=Tryz.underlying5
 a5:=Tryz.isAgg5
 z5:=Tryz.sizeOf5
 v5:=Tryz.zeroValue5
 t9:=Tryz.underlying9
 a9:=Tryz.isAgg9
 z9:=Tryz.sizeOf9
 v9:=Tryz.zeroValue9
 t22:=Tryz.underlying141
 a22:=Tryz.isAgg141
 z22:=Tryz.sizeOf141
 v22:=Tryz.zeroValue141
 t25:=Tryz.underlying369
 a25:=Tryz.isAgg369
 z25:=Tryz.sizeOf369
 v25:=Tryz.zeroValue369
 t39:=Tryz.underlying230
 a39:=Tryz.isAgg230
 z39:=Tryz.sizeOf230
 v39:=Tryz.zeroValue230
 t45:=Tryz.underlying303
 a45:=Tryz.isAgg303
 z45:=Tryz.sizeOf303
 v45:=Tryz.zeroValue303
 t46:=Tryz.underlying304
 a46:=Tryz.isAgg304
 z46:=Tryz.sizeOf304
 v46:=Tryz.zeroValue304
 t50:=Tryz.underlying171
 a50:=Tryz.isAgg171
 z50:=Tryz.sizeOf171
 v50:=Tryz.zeroValue171
 t53:=Tryz.underlying311
 a53:=Tryz.isAgg311
 z53:=Tryz.sizeOf311
 v53:=Tryz.zeroValue311
 t55:=Tryz.underlying313
 a55:=Tryz.isAgg313
 z55:=Tryz.sizeOf313
 v55:=Tryz.zeroValue313
 t66:=Tryz.underlying353
 a66:=Tryz.isAgg353
 z66:=Tryz.sizeOf353
 v66:=Tryz.zeroValue353
 t70:=Tryz.underlying357
 a70:=Tryz.isAgg357
 z70:=Tryz.sizeOf357
 v70:=Tryz.zeroValue357
 t76:=Tryz.underlying383
 a76:=Tryz.isAgg383
 z76:=Tryz.sizeOf383
 v76:=Tryz.zeroValue383
 t77:=Tryz.underlying384
 a77:=Tryz.isAgg384
 z77:=Tryz.sizeOf384
 v77:=Tryz.zeroValue384}
end Go.Proofs
namespace Go.Ar
open Go Go.Vc Go.Proofs Go.RowKit Go.Sort Go.Shelf Go.Lib
abbrev uS:=Fin 64×Sl
instance:Inhabited uS:=⟨(0,⟨none,0,0⟩)⟩
def kP (x:uS):List Value:=[.int .i64 (x.1.val:Int),.slice x.2.a x.2.len x.2.cap]
def pa (x y:uS):Int:=(x.1.val:Int)-(y.1.val:Int)
theorem Ca (x y:uS)(W:World):Calls Tryz.prog 298 #[.agg #[.int .i64 (x.1.val:Int),.slice x.2.a x.2.len x.2.cap],.agg #[.int .i64 (y.1.val:Int),.slice y.2.a y.2.len y.2.cap]] W λe w'=>e=.returned (.int .i64 (pa x y))/\∃q os',w'=grow (W.drewN q) os':=by
 have b:IntKind.i64.wrap ((x.1.val:Int)-(y.1.val:Int))=pa x y:=by
  have g:=x.1.isLt;have d:=y.1.isLt;unfold pa;exact Ux O O
 go_enter Tryz.func298,Tryz.ntmps298
 go_wp2
 go_ret
 exact⟨rfl,0,_,by rw[alloc_eq_grow,alloc_eq_grow,grow_grow];rfl⟩
theorem B8:SWO (ltOf pa) where
 irrefl x:=by simp[ltOf,pa]
 trans x y z a h2:=by
  have a:=uk a;have h2:=uk h2;unfold pa at a h2;exact zI (by unfold pa;omega)
 ntrans x y z a h2:=by
  have a:=y6 a;have h2:=y6 h2;unfold pa at a h2;exact zL (by unfold pa;omega)
def uD (x:uS):Nat×Sl:=(x.1.val,x.2)
theorem Es (l:List uS)(j:Nat)(hj:j<l.length*2):(fL (l.map uD))[j]?=some (flatK kP 2 l.toArray)[j]! := by
 rw[get_flatK _ _ _ _ (by simpa using hj)];have hi:j/2<l.length:=by omega
 have e1:l.toArray[j/2]! = l[j/2]:=by rw[getElem!_pos _ _ (by simpa using hi)];simp
 have a:(l.map uD)[j/2]?=some (uD l[j/2]):=by simp[hi]
 have:=Sd a (d:=j%2) O;rw[show 2*(j/2)+j%2=j by omega]at this;rw[this,e1];have hd:j%2=0\/j%2=1:=by omega
 rcases hd with h|h<;>rw[h]<;>rfl
theorem E9:n4:=by
 intro U F s xs hrow hk hlen R hR;rintro w rfl;have Z:s.len=xs.length:=by have:=hrow.1;rw[Vr]at this;omega
 rcases hrow.2 with⟨h0,hc0⟩|⟨b,cs,hF,ha,hb,hle,hcl,ht⟩
 ·have G:xs=[]:=D5.1 O;have:=AnyF.slices_SortFunc_none Tryz.pO s.a s.cap (.func (.func 298) #[] #[]) w;show Calls _ _ #[.slice s.a s.len s.cap,.func (.func 298) #[] #[]] w _;rw[h0];refine this.mono ?_;rintro e X ⟨rfl,rfl⟩;subst G;exact⟨.refl _,[],rfl,hR [] _ (.refl _) List.Pairwise.nil (Ext.refl _ _) hrow⟩
 ·have E:∀x∈xs,x.1<64:=hk
  let toK:Nat×Sl->uS:=λx=>(Fin.ofNat 64 x.1,x.2)
  have r:(xs.map toK).map uD=xs:=by
   rw[lI]
   conv=>rhs;rw[←vd xs]
   apply kr;intro x hx;simp only[Function.comp,toK,uD,Fin.ofNat,id];rw[vK (E x hx)]
  have M:(xs.map toK).length=xs.length:=by simp
  generalize xs.map toK=l at r M;have B:=hb.lt;have V:HoldsK kP 2 w b 0 l.toArray:=by
   intro j hj;simp only[size_flatK,yV]at hj;have hc:Vc.cell w.heap ⟨b,0+j,none⟩=some (flatK kP 2 l.toArray)[j]! := by
    rw[hb.cell,zH,←Es l j hj,r];rw[←ht,zm,zC (by rw[Vr];omega)]
   exact⟨hc,hb.ox⟩
  have W:∀args w,(callFunc 298 args).run Tryz.prog w=.ok (.enter 298 args) w:=enters_of Tryz.func298 (by kernel_rfl) rfl;have A:∀w,(isAgg (Tryz.eX.t 24)).run Tryz.prog w=.ok true w:=λw=>by
   have h:=Vy (P:=Tryz.prog) (t:=Tryz.eX.t 24) (d:=(Tryz.prog.underlying (Tryz.eX.t 24)).getD .bool) (by kernel_rfl) w
   rwa [show UZ ((Tryz.prog.underlying (Tryz.eX.t 24)).getD .bool)=true by kernel_rfl]at h
  have H:∀w,(Go.sizeOf (Tryz.eX.t 24)).run Tryz.prog w=.ok 2 w:=λw=>by
   have h:=Kr (P:=Tryz.prog) (t:=Tryz.eX.t 24) (by kernel_rfl) w
   rwa [show Tryz.prog.cellsOf (Tryz.eX.t 24)=2 by kernel_rfl]at h
  have z:=AnyQ.slices_SortFunc Tryz.pO 2 A H kP (λ_=>rfl) (λx v Q=>by simp only[kP,zW,Ay,or_false]at Q;rcases Q with rfl|rfl<;>rfl) pa B8 298 #[] b 0 s.cap l.toArray w W (λ_ _ _ _ x y=>Ca x y _) V B (by simp only[yV];omega)
  show Calls _ _ #[.slice s.a s.len s.cap,.func (.func 298) #[] #[]] w _;rw[ha,show s.len=l.toArray.size by simp only[yV];omega];refine z.mono ?_;rintro e X ⟨rfl,d',n,os,S,L,rfl⟩;have g:d'.size=l.length:=by simpa using S.1
  have u:d'.toList.Perm l:=by
   have N:=S.2.2;rw[show l.toArray.size=d'.size by simp[g]]at N;have e1:(d'.extract 0 d'.size)=d':=by simp
   have e2:(l.toArray.extract 0 d'.size)=l.toArray:=by rw[g];simp
   rw[e1,e2]at N;simpa using N
  obtain⟨ty,J⟩:=hb;have m:(sortWorldK kP 2 w b 0 n d' os).heap=(w.heap.modify b (onCells (putCells id 0 (flatK kP 2 d'))))++os:=rfl;have p:(w.heap.modify b (onCells (putCells id 0 (flatK kP 2 d')))).size=w.heap.size:=by simp
  refine⟨⟨rfl,rfl,rfl,by rw[m,Array.size_append,p];omega⟩,[],rfl,?_⟩;rw[m];have C:Ext F w.heap ((w.heap.modify b (onCells (putCells id 0 (flatK kP 2 d'))))++os):=by
   refine⟨by rw[Array.size_append,p];omega,λq Y hf=>?_⟩;rw[wz (by rw[p];exact Y),Az,zB λ(e:b=q)=>hf (by rw[←e];exact hF)]
  refine hR (d'.toList.map uD) _ ?_ ?_ C ⟨?_,.inr ⟨b,(putCells id 0 (flatK kP 2 d') cs.toArray).toList,hF,ha,⟨ty,?_⟩,hle,?_,?_⟩⟩
  ·rw[←r];exact u.map _
  ·rw[se];rw[mu];intro i j hi hj hij;have D:=L i j O hij (by simp only[yo]at hj;simp only[yV];omega);rw[getElem!_pos d' i (by simpa using hi),getElem!_pos d' j (by simpa using hj)]at D;have D:=y6 D;unfold pa at D;simp only[uD,Array.getElem_toList];omega
  ·rw[Vr,zk,yo,g];omega
  ·rw[wz (by rw[p];exact B),Az,zC rfl,J];simp[onCells]
  ·simp[putCells,hcl]
  ·rw[Vr,zk,yo,g];apply zt;intro j;rw[zm];by_cases hj:j<l.length*2
   ·rw[zC hj,Es d'.toList j (by simpa[g]using hj)];have K:j<cs.length:=by
     have:l.length*2<=s.cap*2:=mA _ O;omega
    simp only[putCells,Ac,Array.getElem?_mapIdx,List.getElem?_toArray,cW K,ze];rw[zC ⟨O,by rw[size_flatK,g];omega⟩];simp
   ·rw[zB hj,zX (by rw[Vr,zk,yo,g];omega)]
end Go.Ar
namespace Go.Proofs
open Go.Vc
set_option maxRecDepth 100000
def Ye.h:Hn:=.q .o1 (.q .o5 .l)
def Ye.v (a:Sl)(b:Int)(c:Hp)(d:aO):Prop:=d (decide (((a.len:Nat):Int)>b)) c
theorem Ye.o {a b c d}(e:Ye.v a b c d):Ye.c a b c d:=Wa Tryz.func14 (x:=Ye.h) (R0 e)
def Zh.h:Hn:=.q .o2 (.q (.q (.cU (.seq [.op,.op,.op,.op,.cY false 3 (RI.ops 3)])) (.c (.q .o3 .l) .l)) (.q (.oq 12) .l))
def Zh.v (a:Sl)(b c d e f g h:Int)(i:ByteArray)(j:Hp)(k:aN):Prop:=aV #[.I b,.I c,.I d,.I e,.I f,.I g,.I h,.string i] 40 j λl m=>aQ l 4 m λn=>bX (λo p=>If o (aQ l 5 p λq=>k q p) (aQ l 4 p λr=>Nz ((a.len:Nat):Int) <| Ix a.a a.len (r.tmod ((a.len:Nat):Int)) 1 λs=>bN s p λt=>aQ l 5 p λu=>bM (t+u) λv=>k v p)) λw=>If (n<0) (w true m) (w (((a.len:Nat):Int)==0) m)
theorem Zh.o {a b c d e f g h i j k}(l:Zh.v a b c d e f g h i j k):Zh.c a b c d e f g h i j k:=Wa Tryz.func25 (x:=Zh.h) (R0 l)
def XQ.h:Hn:=.q .o1 (.q .o4 .l)
def XQ.v (a:Hp)(b:Option Addr->Hp->Prop):Prop:=WN.c 8 64 1 1 1024 2 a λc d=>b c d
theorem XQ.o {a b}(c:XQ.v a b):XQ.c a b:=Wa Tryz.func39 (x:=XQ.h) (R0 c)
def Xb.h:Hn:=.q .o2 (.q .o5 .l)
def Xb.v (a b c d e f:Int)(g:Hp)(h:aO):Prop:=aV #[.I a,.I b,.I c,.I d,.I e,.I f] 25 g λi j=>bN ((i.add 1).add 0) j λk=>h (decide (k>128)) j
theorem Xb.o {a b c d e f g h}(i:Xb.v a b c d e f g h):Xb.c a b c d e f g h:=Wa Tryz.func52 (x:=Xb.h) (R0 i)
def WN.h:Hn:=.q .o2 (.q .o8 (.q .o9 (.q (.q .o2 .aK) .aL)))
def WN.v (a b c d e f:Int)(g:Hp)(h:Option Addr->Hp->Prop):Prop:=aV #[.I a,.I b,.I c,.I d,.I e,.I f] 25 g λi j=>aQ i 0 j λk=>Xi.c k j λl m n=>bN ((i.add 1).add 0) n λo=>bN ((i.add 1).add 1) n λp=>bN ((i.add 1).add 2) n λq=>bN ((i.add 1).add 3) n λr=>bN ((i.add 1).add 4) n λs=>Vj.c l o p q r s n λt u v=>If (u != 0) (h none v) (h t v)
theorem WN.o {a b c d e f g h}(i:WN.v a b c d e f g h):WN.c a b c d e f g h:=Wa Tryz.func53 (x:=WN.h) (R0 i)
end Go.Proofs
namespace Go.Ar
open Go Go.Vc Go.Proofs
variable {U w w':Hp}{F P Q:Rg}{L:dE}{H H':Hw}{held:List Pc}{s0:Sp}{t n:Nat}{g:Th}
structure fC where
 kd:Int
 th:Int
 a:Int
 b:Int
 of:Int
 pl:Int
 va:Int
 s:ByteArray
def uI (d:fC):List Value:=[.int .i64 d.kd,.int .i64 d.th,.int .i64 d.a,.int .i64 d.b,.int .i64 d.of,.int .i64 d.pl,.int .i64 d.va,.string d.s]
def jA (x:Int):Prop:=-9223372036854775808<=x/\x<=9223372036854775807
structure kR (d:fC):Prop where
 a:jA d.a
 b:jA d.b
 pl:jA d.pl
 va:jA d.va
structure jz (U:Hp) (sl:Sl) (ds:List fC):Prop where
 len:sl.len=ds.length
 at_:∀(i:Nat) (d:fC),ds[i]?=some d->∃b o,sl.a=some ⟨b,o,none⟩/\b<U.size/\∀(j:Nat) v,(uI d)[j]?=some v->cell U ⟨b,o+i*8+j,none⟩=some v
 i:∀d∈ds,kR d
 A3:ds.length<=9223372036854775807
theorem jz.bP {sl:Sl}{ds:List fC}(h:jz U sl ds)(e:aF U w):jz w sl ds:=⟨h.len,λi d r=>by
 obtain⟨b,o,m,g,a⟩:=h.at_ i d r;exact⟨b,o,m,by have:=e.1;omega,λj v p=>by rw[KF e g id];exact a j v p⟩,h.i,h.A3⟩
theorem jz.rd {sl:Sl}{ds:List fC}(h:jz U sl ds)(e:aF U w){i:Nat}{d:fC}(hx:ds[i]?=some d){K:Addr->Prop}(hK:∀b o,(∀w',aF U w'->∀(j:Nat) v,(uI d)[j]?=some v->cell w' ⟨b,o+j,none⟩=some v)->K ⟨b,o,none⟩):Ix sl.a sl.len (i:Int) 8 K:=by
 obtain⟨b,o,r,p,m⟩:=h.at_ i d hx;have x:=(cX.1 hx).1;have g:=h.len;rw[r];refine ix O O ?_;rw[add_lit,dG];exact hK b _ λw' u j v s=>by rw[KF u p id];exact m j v s
theorem BM {b o i:Nat}{h:Hp}{x:ByteArray}{K:ByteArray->Prop}(hc:cell h ⟨b,o+i,none⟩=some (.string x))(hK:K x):wI (Addr.add ⟨b,o,none⟩ i) h K:=⟨x,by rw[add_lit];exact hc,hK⟩
theorem _root_.Go.Vc.bY.rT {b o i:Nat}{cs:List Value}(hb:bY U b cs){x:ByteArray}{K:ByteArray->Prop}(hc:cs[o+i]?=some (.string x))(hK:K x):wI (Addr.add ⟨b,o,none⟩ i) U K:=⟨x,by rw[add_lit,hb.cell];exact hc,hK⟩
def sT (ad:List Int)(d:fC):Int:=if d.of<0\/ad=[]then d.pl else IntKind.i64.wrap (ad.getD (d.of.toNat%ad.length) 0+d.pl)
theorem Mq {ad:List Int}{d:fC}(h:kR d):jA (sT ad d):=by
 unfold sT;split
 ·exact h.pl
 ·exact Ol _
theorem RW {addrs:Sl}{ad:List Int}(hs:cV addrs 1 (Wu ad) U F)(d:fC){R:aN}(hR:∀σ',aF U σ'->R (sT ad d) σ'):Zh.c addrs d.kd d.th d.a d.b d.of d.pl d.va d.s U R:=by
 refine Zh.o ?_;unfold Zh.v;have z:addrs.len=ad.length:=by have:=hs.1;simp[Wu]at this;omega
 refine nw (cs:=uI d) λv D e j=>j.rI rfl (KP (λr w=>w=v/\r=decide (d.of<0\/ad=[])) (λr w ⟨B,u⟩=>?_) λJ x=>cN (λp=>x _ _ ⟨rfl,by rw[zI (.inl p)]⟩) λp=>x _ _ ⟨rfl,?_⟩)
 ·subst B;have g:=hR w e;by_cases hc:d.of<0\/ad=[]
  ·refine cF (by rw[u];exact zI hc) (j.rI rfl ?_);unfold sT at g;rw[zC hc]at g;exact g
  ·have i:0<ad.length:=pM.2 λh=>hc (.inr h);refine cD (by rw[u];exact zL hc) (j.rI rfl (nz O ?_));have A:0<=d.of:=by omega
   have C:d.of.tmod (addrs.len:Int)=((d.of.toNat%ad.length:Nat):Int):=by
    rw[Kh A,z,Int.natCast_emod,Int.toNat_of_nonneg A]
   rw[C];have m:d.of.toNat%ad.length<ad.length:=vM _ i;have y:ad[d.of.toNat%ad.length]?=some ad[d.of.toNat%ad.length]:=cW m;refine(cV.loc _ _ _ |>.bP (aH.cut hs) e).ma y (j.rI rfl (vY ?_));unfold sT at g;rw[zB hc,zQ,y]at g;exact g
 ·rw[z];rw[kU];simp only[zU,zV];constructor
  ·intro h;exact .inr (D5.1 O)
  ·rintro(h|h)
   ·exact(p h).elim
   ·rw[h];rfl
theorem RX {l:Sl}{most:Int}{R:aO}(hR:R (decide ((l.len:Int)>most)) U):Ye.c l most U R:=by
 refine Ye.o ?_;unfold Ye.v;exact hR
theorem Mx {xs:List (Int×Int×Int)}(h:Q0 xs=true):(xs.map QJ).map mG=xs:=by
 rw[lI]
 conv=>rhs;rw[←vd xs]
 apply kr;intro t ht;obtain⟨i,hi⟩:=zP ht;have:=((QW xs).1 h).2.2.1 i t hi;obtain⟨c,_,g,d,a,b⟩:=y8 this;simp only[Function.comp,id];rw[show QJ t=c from g];unfold mG;rw[←d,←a,←b]
theorem N5 {xs:List (Int×Int×Int)}(h:Q0 xs=true):(xs.map QJ).length<=40/\∀c∈xs.map QJ,c.ok:=by
 refine⟨by have:=((QW xs).1 h).2.1;simpa using this,λc b=>?_⟩;obtain⟨t,d,rfl⟩:=zE.1 b;obtain⟨i,hi⟩:=zP d;have:=((QW xs).1 h).2.2.1 i t hi;obtain⟨c,a,g,_⟩:=y8 this;rw[show QJ t=c from g];exact a
structure uy (H:Hw) (aG:Int):Prop where
 hi:HI H [] (V4 H.cf.aG)
 cf:iY H
 pg:(H.cf.aG:Int)=aG
 live:H.live=[]
 ph:∀g∈H.bR,g.ph=none
 th:1<=H.cf.threads
theorem F2 {xs:List (Int×Int×Int)}{p a t b r:Int}(h:Q0 xs=true)(hc:sg p a t b r=true):uy (Uu (xs.map QJ) ⟨p.toNat,a.toNat,t.toNat,b.toNat,r.toNat⟩) p:=by
 obtain⟨⟨q1,q2,q3⟩,⟨q4,u⟩,⟨m,s⟩,_⟩:=(Jk p a t b r).1 hc;obtain⟨d,i⟩:=N5 h;refine⟨PS (cf:=⟨p.toNat,a.toNat,t.toNat,b.toNat,r.toNat⟩) aC aC aC aC d i,⟨by simp only[Uu];omega,by simp[Uu],?_⟩,by simp only[Uu];omega,rfl,λg j=>by rw[Ds j],by simp only[Uu];omega⟩;show Q0 ((xs.map QJ).map mG)=true;rw[Mx h];exact h
theorem Wn6 (g:Gl U)(gd:Gd U)(b b1 b2 b3 b4 b5:Int){R:Option Addr->Hp->Prop}(h0:∀σ',aF U σ'->R none σ')
 (h1:∀σ' L N H,aF U σ'->U.size<=N->N<=σ'.size->HH σ' (λb=>N<=b) L H->uy H b1->R (some ⟨L.p,0,none⟩) σ'):WN.c b b1 b2 b3 b4 b5 U R:=by
 refine WN.o ?_;unfold WN.v;refine nw (cs:=[.int .i64 b,.int .i64 b1,.int .i64 b2,.int .i64 b3,.int .i64 b4,.int .i64 b5]) λv E e j=>j.rI rfl ?_;by_cases hw:2<=b/\b<=16
 ·refine F7 b hw.1 hw.2 λs C e1 w=>?_;have d:=e1.bV j id;have a:=e.trans e1;have m:Q0 (qR b)=true:=by
   have:=Gj b.toNat O O;rw[show((b.toNat:Nat):Int)=b by omega]at this;exact this
  refine d.fD rfl (d.fD rfl (d.fD rfl (d.fD rfl (d.fD rfl ?_))));refine CV w (g.bP a) (gd.bP a) b1 b2 b3 b4 b5 (λr=>by rw[m]at r;cases r) (λ_ A u e2=>?_) λ_ A u L e2 D=>?_
  ·exact cF rfl (h0 u (a.trans e2))
  ·exact cD rfl (h1 u L C.size _ (a.trans e2) a.1 e2.1 D (F2 m A))
 ·refine Δ b O (j.fD rfl (j.fD rfl (j.fD rfl (j.fD rfl (j.fD rfl ?_)))));have w:ik v ⟨none,0,0⟩ []:=⟨rfl,λi x y z B=>by simp at B⟩;refine CV w (g.bP e) (gd.bP e) b1 b2 b3 b4 b5 (λ_ u e2=>cF rfl (h0 u (e.trans e2))) (λm=>?_) λm=>?_
  ·exact absurd m aB
  ·exact absurd m aB
def Safe (H:Hw)(d:fC)(x:Int)(e:Int×Bk):Prop:=(∀j,fK H j≠some (.find e.1))/\¬((d.kd=3\/d.kd=1\/d.kd=6)/\e.1<=x/\x<e.1+e.2.2.1)
structure nG (H:Hw) (d:fC) (x:Int) (H':Hw):Prop where
 hi:∃held s0,HI H' held s0
 kp:Q2 H' H
 fx:∀e∈H.live,Safe H d x e->e∈H'.live/\(∀w:Nat,e.1<=((8*w:Nat):Int)->((8*w:Nat):Int)<e.1+e.2.2.1->H'.sp.wd w=H.sp.wd w)/\∀j,fK H' j≠some (.find e.1)
theorem nG.same (h:HI H held s0)(d:fC)(x:Int):nG H d x H:=⟨⟨_,_,h⟩,Q2.refl _,λe a b=>⟨a,λ_ _ _=>rfl,b.1⟩⟩
theorem nG.op (h:HI H held s0){d:fC}{x:Int}(o:fR H H')(hl:∀e∈H.live,Safe H d x e->e∈H'.live):nG H d x H':=
 ⟨o.hi,o.kp,λe a b=>⟨hl e a b,h.kl o.ks e a,λj=>by rw[o.ph];exact b.1 j⟩⟩
theorem nG.ar {d:fC}{x:Int}(o:mN H H'):nG H d x H':=
 ⟨o.hi,o.kp,λe a b=>⟨by rw[o.live];exact a,o.kl e a,λj=>by unfold fK;rw[o.bR];exact b.1 j⟩⟩
theorem HI.pF (h:HI H held s0){e:Int×Bk}(he:e∈H.live):8<=e.2.2.1/\0<=e.1/\e.1%8=0/\e.2.2.1%8=0/\e.1+e.2.2.1<=270000:=by
 obtain⟨_,p,d,C,G,F,z,_⟩:=h.lv e he;have B:=h.A5.size_pos d;have D:=h.A5.jQ d;obtain⟨A,y,hd⟩:=h.A5.hf p d;have E:p.addr%8=0:=by
  rcases hd with⟨_,_,r,hr,c2,c3⟩|⟨j,c,c1,c2,c3,c4,_⟩
  ·omega
  ·obtain⟨a,x,b,u⟩:=c4;have:a=c:=Option.some.inj (b.1.symm.trans c2);subst this;have m:=(h.A5.ga _ A y).cG j a x b;obtain⟨l,s,i,J,hi,e,_⟩:=(Uh m).1 u;have g:=m.ok;unfold cA.ok at g;unfold at_ at e;have w:a.size=8*(a.size/8):=by omega
   have:i*a.size=8*(i*(a.size/8)):=by rw[Nat.mul_left_comm,←w]
   omega
 omega
theorem nG.write (h:HI H held s0){d:fC}{x:Int}(hd:d.kd=3)(v:Int):nG H d x {H with sp:=ZL H.sp x v}:=by
 refine⟨⟨_,_,h.write x v⟩,⟨rfl,rfl,rfl,rfl⟩,λe b a=>⟨b,λw j i=>?_,a.1⟩⟩;have m:=h.pF b;rw[(CQ H.sp x v).2.2,zB];rintro⟨h0,hw⟩;have g:=Jh h0;exact a.2 ⟨.inl hd,O,O⟩
theorem nG.free (h:HI H held s0){d:fC}{x thread e:Int}(hd:d.kd=1)(o:fR H H')(hf:nR H thread x H' e):nG H d x H':=by
 refine nG.op h o λj a g=>?_;have i:=h.pF a;rcases hf with⟨_,h2,_⟩|⟨_,_,_,h4⟩|⟨_,b,_,_,h4⟩
 ·rw[h2];exact a
 ·rw[h4];exact a
 ·rw[h4];refine AJ.2 ⟨a,λm=>g.2 ⟨.inr (.inl hd),O,O⟩⟩
theorem nG.step (h:HI H held s0){d:fC}{x:Int}(hg:H.bR[t]?=some g){p:Ph}(hp:g.ph=some p):nG H d x (Ke H t p):=by
 have G:=(cX.1 hg).1;have s:=h.PJ hg hp;have B:fK H t=some p:=by unfold fK;rw[hg];exact hp
 have live:∀e∈H.live,p≠.find e.1->e∈(Ke H t p).live:=λe i w=>by
  by_cases hf:lJ p
  ·obtain⟨_,_,_,K,m⟩:=r4 h hg hp hf;by_cases u:∃y,p=.find y
   ·obtain⟨y,rfl⟩:=u;cases hm:bU H.live y with
    | none=>rw[((m y rfl).1 hm).2.2];exact i
    | some b=>
     rw[((m y rfl).2 b hm).2];exact AJ.2 ⟨i,λa=>w (by rw[a])⟩
   ·rw[(K λy a=>u ⟨y,a⟩).2];exact i
  ·obtain⟨cl,J,C⟩:=BX h hg hp hf;obtain⟨_,r⟩:=rK h hg hp C;rcases r with⟨_,_,_,e2,_⟩|⟨_,_,_,e4⟩|⟨_,_,e3,e4⟩
   ·rw[e2];exact i
   ·rw[e4];exact i
   ·rw[e4];exact(Aq e3).2 (.inl i)
 have E:∀y,(WJ H t p).2.1≠some (.find y):=λy a=>by
  by_cases hf:lJ p
  ·obtain⟨_,_,r,_⟩:=r4 h hg hp hf;rcases r with⟨p',z,e1,_,e3,_⟩|e1
   ·rw[e1]at a;exact e3 y (Option.some.inj a)
   ·rw[e1]at a;cases a
  ·obtain⟨cl,J,C⟩:=BX h hg hp hf;obtain⟨_,r⟩:=rK h hg hp C;rcases r with⟨p',z,e1,_,_,e4,_⟩|⟨e1,_⟩|⟨e1,_⟩
   ·rw[e1]at a;cases a;exact e4.elim
   ·rw[e1]at a;cases a
   ·rw[e1]at a;cases a
 refine⟨s.hi,Ha H t p,λe i F=>⟨live e i λu=>F.1 t (by rw[B,u]),h.kl s.ks e i,λj=>?_⟩⟩;by_cases hj:j=t
 ·subst hj;obtain⟨z,D,A⟩:=Gh (p:=p) G;unfold fK;rw[D];show z.ph≠_;rw[A];exact E _
 ·unfold fK;rw[UX p hj];exact F.1 j
end Go.Ar
namespace Go.Ar
open Go Go.Vc Go.Proofs
variable {U w w':Hp}{F P Q X:Rg}{L:dE}{H H':Hw}{held:List Pc}{s0:Sp}{t n:Nat}{g:Th}
structure fY (σ0 U:Hp) (L:dE) (H:Hw) (held:List Pc) (s0:Sp) (P Q:Rg) (addrs:Sl) (ad:List Int):Prop where
 e:aF σ0 U
 h:HH U P L H
 hi:HI H held s0
 cf:iY H
 pg:H.cf.aG<=128
 pP:∀b,P b->σ0.size<=b/\b<U.size
 pQ:∀b,Q b->σ0.size<=b/\b<U.size/\¬P b
 row:bT addrs 1 (Wu ad) U Q
 al:ad.length<=60
 g0:iW (λb=>σ0.size<=b)/\¬σ0.size<=1
variable {σ0:Hp}{addrs:Sl}{ad:List Int}
theorem fY.step (p:fY σ0 U L H held s0 P Q addrs ad){ts':List eR}(e:Ext P U w)(h':HH w (Grow P U) {L with ts:=ts'} H'){held':List Pc}{s0':Sp}(hi':HI H' held' s0')(k:Q2 H' H) :
 fY σ0 w {L with ts:=ts'} H' held' s0' (Cut (Grow P U) w) Q addrs ad:=by
 have j:=e.1;refine⟨Ext.dW p.e e λb a=>.inr (p.pP b a).1,h'.cut,hi',p.cf.bS k,by rw[k.2.1];exact p.pg,λb a=>⟨?_,a.2⟩,λb a=>?_,aI.bS p.row e λb _ d g=>(p.pQ b d).2.2 g,p.al,p.g0⟩
 ·have:=p.e.1;rcases a.1 with h1|h1
  ·exact(p.pP b h1).1
  ·omega
 ·obtain⟨q1,q2,q3⟩:=p.pQ b a;exact⟨q1,O,λi=>by
   rcases i.1 with h1|h1
   ·exact q3 h1
   ·omega⟩
theorem fY.fr (p:fY σ0 U L H held s0 P Q addrs ad)(e:aF U w):fY σ0 w L H held s0 P Q addrs ad:=
 ⟨p.e.trans e,p.h.bP e,p.hi,p.cf,p.pg,λb a=>⟨(p.pP b a).1,by have:=(p.pP b a).2;have:=e.1;omega⟩,λb a=>⟨(p.pQ b a).1,by have:=(p.pQ b a).2.1;have:=e.1;omega,(p.pQ b a).2.2⟩,aI.bP p.row e,p.al,p.g0⟩
theorem fY.out (p:fY σ0 U L H held s0 P Q addrs ad){T:Rg}(e:Ext T U w)(hT:∀b,b<U.size->T b->¬P b/\¬Q b/\σ0.size<=b):fY σ0 w L H held s0 P Q addrs ad:=by
 have r:=e.1;have g:Ext (λb=>T b/\b<U.size) U w:=⟨e.1,λb a m=>e.2 b a λd=>m ⟨d,a⟩⟩;refine⟨Ext.dW p.e g λb a=>.inr (hT b a.2 a.1).2.2,p.h.bS g (λb a j d=>(hT b a d.1).1 j) (λb a=>?_) (λa=>?_),p.hi,p.cf,p.pg,λb a=>⟨(p.pP b a).1,by have:=(p.pP b a).2;omega⟩,λb a=>⟨(p.pQ b a).1,by have:=(p.pQ b a).2.1;omega,(p.pQ b a).2.2⟩,aI.bS p.row g λb a i d=>(hT b a d.1).2.1 i,p.al,p.g0⟩
 ·exact p.g0.1 b (hT b a.2 a.1).2.2
 ·exact p.g0.2 (hT _ a.2 a.1).2.2
theorem wo (hr:bT addrs 1 (Wu ad) U Q)(hl:ad.length<=1000000)(x:Int){e t:Nat}{K:Sl->Hp->Prop}(hK:∀s' w,Ext Q U w->bT s' 1 (Wu (ad++[x])) w (λb=>Q b\/U.size<=b/\b<w.size)->K s' w) :
 Nw (.cells #[.int .i64 x] t (0,0)) U λn v=>App addrs 1 8 e [.int .i64 0] ⟨some n,1,1⟩ v K:=by
 have i:addrs.len=ad.length:=by have:=hr.1;simp[Wu]at this;omega
 refine bT.push (F:=λb=>Q b\/U.size<=b) (vs:=[.int .i64 x]) (aI.mono hr λb _ a=>.inl a) (λb a=>.inr a) rfl rfl (by simp[dX]) O O λs' w p g j=>hK s' w ⟨g.1,λb a m=>g.2 b a λd=>d.elim m λd=>O⟩ ?_;have:Wu (ad++[x])=Wu ad++[.int .i64 x]:=by simp[Wu]
 rw[this];refine aI.mono (aI.cut j) λb a d=>?_;rcases d.1 with h1|h1
 ·exact .inl h1
 ·exact .inr ⟨h1,a⟩
end Go.Ar
namespace Go.Ar
open Go.Vc (bU dA cO)
def i63 (x:Int):Bool:=decide (x<=9223372036854775807)
def qy (H:Hw)(t:Nat):Ph->Bool
 | .take k=>decide (k<H.tb.length)&&(match KN (H.cls k) ((H.kc t).li k)with
  | (some y,_)=>i63 y
  | (none,_)=>true)
 | .cJ k _=>decide (k<H.tb.length)&&(QG (H.eM t) (k:Int) != 0 || !(YR (H.eM t) (k:Int)).isEmpty)
 | .cL _ _=>true
 | .grow _ _=>true
 | .fill=>match (H.kc t).bQ with
  | (k,x::xs)::_=>decide (k<H.tb.length)&&(i63 x&&decide (((H.kc t).li k).os.length+xs.length<=256))
  | _=>false
 | .eP m=>decide (QF (H.eM t) H.sp (m:Int) 1<=1000000)
 | .find x=>i63 x&&((bU H.live x).isSome&&decide (0<=x))
 | .put k _=>decide (k<H.tb.length) && !(H.kc t).bQ.isEmpty
 | .back=>match (H.kc t).bQ with
  | (_,xs)::_=>(xs.all λx=>i63 x&&decide (0<=Yi H.bZ x))&&decide (xs.length<=1000000)
  | _=>false
 | .dH _ a=>decide (0<=a)&&(decide (a.toNat<H.bZ.length)&&H.bZ.all λA=>A.runs.all λr=>decide (r.1<=1000000))
 | .drain=>true
theorem yB {x:Int}(h:i63 x=true):iL x:=by
 unfold i63 at h;unfold iL;exact uk h
theorem Wkd {H:Hw}{t:Nat}{p:Ph}(h:qy H t p=true):u7 H t p:=by
 cases p with
 | take k=>
  simp only[qy,zF,zV]at h;refine⟨h.1,λy l j=>?_⟩;have g:=h.2;rw[j]at g;exact yB g
 | cJ k w=>
  simp only[qy,zF,zV,nT]at h;refine⟨h.1,λu d=>?_⟩;rw[u,d]at h;simp at h
 | cL k w=>trivial
 | grow k w=>trivial
 | fill=>
  simp only[qy]at h;split at h
  ·rename_i k x xs r hh;simp only[zF,zV]at h;exact⟨k,x,xs,r,hh,h.1,yB h.2.1,h.2.2⟩
  ·cases h
 | eP m=>
  simp only[qy,zV]at h;exact h
 | find x=>
  simp only[qy,zF,zV]at h;exact⟨yB h.1,λz=>by rw[z]at h;simp at h,λb _=>h.2.2⟩
 | put k x=>
  simp only[qy,zF,zV]at h;exact⟨h.1,λd=>by rw[d]at h;simp at h⟩
 | back=>
  simp only[qy]at h;split at h
  ·rename_i k xs r hh;simp only[zF,zV,kh]at h;exact⟨k,xs,r,hh,λx i=>⟨yB (h.1 x i).1,(h.1 x i).2⟩,h.2⟩
  ·cases h
 | dH s a=>
  simp only[qy,zF,zV,kh]at h;exact⟨h.1,h.2.1,h.2.2⟩
 | drain=>trivial
def pq:Nat->Hw->Nat->Ph->Option (Hw×Int×Int)
 | 0,_,_,_=>none
 | n+1,H,t,p=>if qy H t p&&decide ((H.kc t).bQ.length<=900)then(match (WJ H t p).2.1 with
  | none=>some (Ke H t p,(WJ H t p).2.2.1,(WJ H t p).2.2.2)
  | some p'=>pq n (Ke H t p) t p')else none
theorem F6:∀{n:Nat} {H:Hw} {t:Nat} {p:Ph} {r:Hw×Int×Int},pq n H t p=some r->∃m,iG m H t p r.1 r.2.1 r.2.2
 | 0,_,_,_,_,h=>by simp[pq]at h
 | n+1,H,t,p,r,h=>by
  rw[pq]at h;split at h
  ·rename_i hc;simp only[zF,zV]at hc;have hok:vf H t p:=⟨Wkd hc.1,λg a=>by rw[←GY a];exact hc.2⟩;split at h
   ·rename_i hn;cases h;exact⟨1,.done hok hn⟩
   ·rename_i p' hs;obtain⟨m,b⟩:=F6 h;exact⟨m+1,.next hok hs b⟩
  ·cases h
def UR (H:Hw)(thread kind size align addr:Int):Option (Hw×Int×Int):=match Vd H thread kind size align addr with
 | .inl e=>if e=0 then none else some (H,0,e)
 | .inr (t,p)=>pq 40 (eW H t (some p)) t p
theorem FG {H:Hw}{thread kind size align addr:Int}{r:Hw×Int×Int}(h:UR H thread kind size align addr=some r):KO H thread kind size align addr r.1 r.2.1 r.2.2:=by
 unfold UR at h;split at h
 ·rename_i e he;split at h
  ·cases h
  ·rename_i hne;cases h;exact .inl ⟨he,hne,rfl,rfl⟩
 ·rename_i t p he;obtain⟨m,a⟩:=F6 h;exact .inr ⟨t,p,m,he,a⟩
def LC:List cA:=(qR 8).map QJ
def w0:Hw:=Uu LC ⟨64,1,1,1024,2⟩
theorem wM:Uu ((qR 8).map QJ) ⟨(64:Int).toNat,(1:Int).toNat,(1:Int).toNat,(1024:Int).toNat,(2:Int).toNat⟩=w0:=rfl
end Go.Ar
namespace Go.Ar
open Go Go.Vc Go.Proofs
variable {U u u':Hp}{F:Rg}{L:dE}{H H':Hw}{N:Nat}
attribute [local irreducible] w0 LC
theorem Wk4 (g:Gl U)(gd:Gd U){R:Option Addr->Hp->Prop}(hR:∀σ' L N,aF U σ'->U.size<=N->N<=σ'.size->HH σ' (λb=>N<=b) L w0->R (some ⟨L.p,0,none⟩) σ'):XQ.c U R:=by
 refine XQ.o ?_;unfold XQ.v;refine WN.o ?_;unfold WN.v;refine nw (cs:=[.int .i64 8,.int .i64 64,.int .i64 1,.int .i64 1,.int .i64 1024,.int .i64 2]) λv y e i=>i.rI rfl ?_;refine F7 8 aB aB λs u e1 w=>?_;have a:=e1.bV i id;have d:=e.trans e1;refine a.fD rfl (a.fD rfl (a.fD rfl (a.fD rfl (a.fD rfl ?_))));refine CV w (g.bP d) (gd.bP d) 64 1 1 1024 2 (λm=>?_) (λ_ r=>?_) λ_ _ x L e2 j=>?_
 ·have:=Gj 8 aB aB;rw[show((8:Nat):Int)=8 from rfl]at this;rw[this]at m;cases m
 ·exact absurd r aB
 ·rw[wM]at j;exact cD rfl (hR x L u.size (d.trans e2) d.1 e2.1 j)
end Go.Ar
namespace Go.Proofs
open Go.Vc
set_option maxRecDepth 100000
def Xa.h:Hn:=.q .o2 (.q (.q .o3 (.c (.q .o3 .l) .l)) (.q .o9 (.q (.q .o2 (.c (.q .o3 .l) .l)) (.q .o4 .l))))
def Xa.v (a:R2)(b:Int)(c:Hp)(d:Int->Int->Int->Int->Int->Hp->Prop):Prop:=aV #[.I 0,.I 0,.I 0,.I 0] 48 c λe f=>W9.c a f λg h=>If (!g) (aR e 0 (.I 0) h λi=>aR e 1 (.I 0) i λj=>aR e 2 (.I 0) j λk=>aR e 3 (.I 0) k λl=>aQ e 0 l λm=>aQ e 1 l λn=>aQ e 2 l λo=>aQ e 3 l λp=>d m n o p 5 l) (Zx.c a b ⟨60,#[],#[]⟩ h λq r s t u v w=>aV #[.I 0,.I 0,.I 0,.I 0,.I 0] 106 w λx y=>aR x 0 (.I q) y λz=>aR x 1 (.I r) z λaa=>aR x 2 (.I s) aa λab=>aR x 3 (.I t) ab λac=>aR x 4 (.I u) ac λad=>If (!v) (aR e 0 (.I 0) ad λae=>aR e 1 (.I 0) ae λaf=>aR e 2 (.I 0) af λag=>aR e 3 (.I 0) ag λah=>aQ e 0 ah λai=>aQ e 1 ah λaj=>aQ e 2 ah λak=>aQ e 3 ah λal=>d ai aj ak al 8 ah) (bN ((x.add 0).add 0) ad λam=>bN ((x.add 0).add 1) ad λan=>bN ((x.add 0).add 2) ad λao=>bN ((x.add 0).add 3) ad λap=>aR e 0 (.I am) ad λaq=>aR e 1 (.I an) aq λar=>aR e 2 (.I ao) ar λau=>aR e 3 (.I ap) au λav=>aQ e 0 av λaw=>aQ e 1 av λax=>aQ e 2 av λay=>aQ e 3 av λaz=>d aw ax ay az 0 av))
theorem Xa.o {a b c d}(e:Xa.v a b c d):Xa.c a b c d:=Wa Tryz.func24 (x:=Xa.h) (R0 e)
def Zj.h:Hn:=.q .o1 (.q (.q .o3 .aK) (.q .o1 (.q (.q .o8 (.k (.loop [(3,.one .s),(16,.I)] (.q .o1 (.q (.c .l .l) (.q (.k (.q .o3 (.o 11))) .o2)))))) .aL)))
def Zj.v (a:R2)(b:Hp)(c:Sl->Hp->Prop):Prop:=W9.c a b λd e=>If (!d) (c ⟨none,0,0⟩ e) (bJ a 1 e λg=>ZH.c g e λh i=>Ub.c h i λj k=>XS [.s,bO] (λl=>l ⟨none,0,0⟩ 0 k) λm (n:Sl) (o:Int) p=>If (o<((j.len:Nat):Int)) (Ix j.a j.len o 1 λq=>bN q p λr=>bW a λs=>bC s 1 p λt=>Lk .i64 (.ag 5) t r p λu=>aV #[.I ((u.getD (0,0,0,0,0)).1),.I ((u.getD (0,0,0,0,0)).2.1),.I ((u.getD (0,0,0,0,0)).2.2.1),.I ((u.getD (0,0,0,0,0)).2.2.2.1)] 48 p λv w=>App n 4 32 48 [.I 0,.I 0,.I 0,.I 0] ⟨some v,1,1⟩ w λx y=>bM (o+1) λz=>m x z y) (c n p))
theorem Zj.o {a b c}(d:Zj.v a b c):Zj.c a b c:=Wa Tryz.func33 (x:=Zj.h) (R0 d)
def Kg.h:Hn:=.q .o2 (.q (.q .o3 .aJ) (.q .o7 .l))
def Kg.v (a:R2)(b:Hp)(c:Option Addr->Int->Hp->Prop):Prop:=Q9.c a b λd e=>If (!d) (c none 1 e) (Nw (.map #[] 0) e λf g=>Nw (.map #[] 0) g λh i=>aV #[.pointer a,.map (some f.block),.map (some h.block),.I 0] 75 i λj k=>c (some j) 0 k)
theorem Kg.o {a b c}(d:Kg.v a b c):Kg.c a b c:=Wa Tryz.func38 (x:=Kg.h) (R0 d)
def XH.h:Hn:=.q .o1 (.q (.q .o3 .aK) (.q .o5 .l))
def XH.v (a:R2)(b:Hp)(c:Option Addr->Hp->Prop):Prop:=W9.c a b λd e=>If (!d) (c none e) (bG a 0 e λg=>c g e)
theorem XH.o {a b c}(d:XH.v a b c):XH.c a b c:=Wa Tryz.func43 (x:=XH.h) (R0 d)
def Yc.h:TX:=.nx (.o 3) (.nx (.seq (.o 3) (.cond (.seq (.o 2) (.leaf)) (.leaf))) (.nx (.seq (.cU (.seq [.op,.op,.op,.cY false 2 [.op,.op],.op,.cY false 2 [.op,.op],.op,.cY false 2 [.op,.op],.op,.cY false 5 [.op,.op,.op,.op,.op]])) (.cond (.seq (.o 2) (.leaf)) (.leaf))) (.nx (.o 3) (.nx (.o 5) (.nx (.cU (.held true [] (.take 0 (.take 1 (.take 2 (.take 3 (.take 4 (.take 5 (.take 6 (.take 10 (.all [(7,.take 8 (.take 9 (.all [(11,.take 12 (.take 13 (.take 14 (.take 15 (.take 16 (.done))))))])))]))))))))))) (.nx (.seq (.o 2) (.cond (.seq (.o 3) (.leaf)) (.leaf))) (.nx (.o 8) (.nx (.o 16) (.nx (.o 12) (.r1 (.o 2) bO (.block (.cU (.held true [] (.take 0 (.take 1 (.take 2 (.take 3 (.take 4 (.take 5 (.all [(6,.all [(7,.done)])])))))))))) (.seq (.o 3) (.seq (.cU (.held true [8] (.take 0 (.take 1 (.take 2 (.take 3 (.take 4 (.take 5 (.take 6 (.take 7 (.all [(8,.done)]))))))))))) (.seq (.o 5) (.leaf))))))))))))))
def Yc.v (a:R2)(b c d:Int)(e:Hp)(f:Int->Int->Hp->Prop):Prop:=aV #[.pointer a] 50 e λg h=>fX g h λi=>W9.c i h λj k=>If (!j) (f 0 5 k) (bX (λl m=>bX (λn o=>bX (λp q=>bX (λr s=>If r (f 0 1 s) (aV #[.I 0,.I 0,.I 0,.I 0,.I 0] 106 s λt u=>aR t 0 (.I 0) u λv=>aR t 1 (.I c) v λw=>aR t 2 (.I 0) w λx=>aR t 3 (.I 0) x λy=>aR t 4 (.I 0) y λz=>dS z λaa=>gC aa .p g λ(ab:R2)=>bW ab λac=>aU aa ac 0 λad=>aS aa t 0 λae=>aS aa t 1 λaf=>aS aa t 2 λag=>aS aa t 3 λah=>aS aa t 4 λai=>XI.c ae af ag ah ai z λaj ak=>And (aa ak) <| bM ((if 16>d then 16 else d)+aj) λal=>bM (al+16) λam=>Y5.c ad b am (if 16>d then 16 else d) ak λan ao ap=>And (aa ap) <| If (ao != 0) (f 0 ao ap) (fX g ap λaq=>bE aq 3 ap λau=>bM (au+1) λav=>bW aq λaw=>aR aw 3 (.I av) ap λax=>fX g ax λay=>bE ay 3 ax λa0=>bM (an+(if 16>d then 16 else d)) λa1=>aR t 4 (.I a0) ax λa2=>dF ((t.add 0).add 2) (.I an) a2 λa3=>dF ((t.add 0).add 0) (.I a1) a3 λa4=>fX g a4 λa5=>bG a5 0 a4 λa7=>XW.c a7 an a4 λa8 a9 ba=>dF ((t.add 0).add 3) (.I a8) ba λbb=>aQ t 0 bb λbc=>aQ t 1 bb λbd=>aQ t 2 bb λbe=>aQ t 3 bb λbf=>aQ t 4 bb λbg=>
 X1.c bc bd be bf bg bb λbh bi=>Dt Tryz.prog (e1 bO) bh bi (λ(bj:Int) bk bl=>dS bl λbm=>gC bm .p g λ(bn:Option Addr)=>bW bn λbo=>aU bm bo 0 λbp=>Z8.c bj bl λbq br=>And (bm br) <| Xy.c bp bj bq br λbs bt=>And (bm bt) <| bk bt) λbu=>fX g bu λbv=>aQ t 0 bu λbw=>aQ t 1 bu λbx=>aQ t 2 bu λbz=>aQ t 3 bu λb0=>aQ t 4 bu λb1=>Yx.c bv bw bx bz b0 b1 0 bu λb2=>dS b2 λb3=>gC b3 .p g λ(b4:Option Addr)=>bW b4 λb5=>gC b3 .m (b5.add 1) λ(b6:Option Nat)=>gC b3 bO ((t.add 0).add 0) λ(b7:Int)=>aS b3 t 0 λb8=>aS b3 t 1 λb9=>aS b3 t 2 λca=>aS b3 t 3 λcb=>aS b3 t 4 λcc=>kH .i64 (.ag 5) b6 b7 (b8,b9,ca,cb,cc) b2 λcd=>bN ((t.add 0).add 0) cd λce=>u6 bi.size cd λcf=>f ce 0 cf))) λcg=>If p (cg true q) (bM (d-1) λch=>cg ((bits .and .i64 d ch) != 0) q)) λci=>If n (ci true o) (ci (decide (d>256)) o)) λcj=>If l (cj true m) (cj (decide (d<1)) m)) λck=>If (c<1) (ck true k) (ck (decide (c>1024)) k))
theorem Yc.o {a b c d e f}(g:Yc.v a b c d e f):Yc.c a b c d e f:=FV Tryz.func56 (x:=Yc.h) (R0 g)
def W9.h:Hn:=.q .o1 (.q (.cU (.seq [.op,.op,.op,.cY true 5 (RI.ops 5),.op])) .l)
def W9.v (a:R2)(b:Hp)(c:aO):Prop:=bX (λd e=>c d e) λf=>If (!a.isNone) (bG a 0 b λh=>f (!h.isNone) b) (f false b)
theorem W9.o {a b c}(d:W9.v a b c):W9.c a b c:=Wa Tryz.func58 (x:=W9.h) (R0 d)
def Zx.h:Hn:=.q .o2 (.q .o1 (.q .o2 (.q (.q .o5 (.k (.loop [(9,.one .b),(10,.one .b)] (.q (.cU (.seq [.it .i64 (.ag 5),.op])) (.q (.c .l .l) (.k (.q (.cU (.seq [.it .i64 (.ag 5),.op,.op,.op])) (.q (.q (.cU (.gK true [] [(38,.one .b)] (.tk [0,1,2,3,4,5] (.split 28 (.tk [6,7,8,9,10,11,12,13,14,15] (.done)) (.tk [6,7,8,9,10,11] (.all [(12,.tk [13,14,15] (.done))])))))) (.c .l .l)) (.q .o5 (.q (.cU (.seq [.op,.op,.op,.cY false 5 [.op,.op,.cY true 2 [.op,.op]],.op,.cY false 10 [.op,.op,.op,.op,.cY true 5 (RI.ops 5)]])) (.c .o5 .l))))))))))) (.q .o4 .l))))
def Zx.v (a:R2)(b:Int)(c:Fv)(d:Hp)(e:Int->Int->Int->Int->Int->Bool->Hp->Prop):Prop:=aV #[.I 0,.I 0,.I 0,.I 0,.I 0] 106 d λf g=>aV #[.I 0,.I 0,.I 0,.I 0,.I 0] 106 g λh i=>bJ a 1 i λk=>pD .i64 (.ag 5) k i λl m=>XS [.b,.b] (λn=>n false false m) λo (p:Bool) (q:Bool) r=>p7 .i64 (.ag 5) l r (aQ h 0 r λs=>aQ h 1 r λt=>aQ h 2 r λu=>aQ h 3 r λv=>aQ h 4 r λw=>aR f 0 (.I s) r λx=>aR f 1 (.I t) x λy=>aR f 2 (.I u) y λz=>aR f 3 (.I v) z λaa=>aR f 4 (.I w) aa λab=>aQ f 0 ab λac=>aQ f 1 ab λad=>aQ f 2 ab λae=>aQ f 3 ab λaf=>aQ f 4 ab λag=>e ac ad ae af ag p ab) (λah ai aj=>pj .i64 (.ag 5) l aj λak al=>aV #[.I 0,.I 0,.I 0,.I 0,.I 0] 106 aj λam an=>aR am 0 (.I al.1) an λao=>aR am 1 (.I al.2.1) ao λap=>aR am 2 (.I al.2.2.1) ap λaq=>aR am 3 (.I al.2.2.2.1) aq λar=>aR am 4 (.I al.2.2.2.2) ar λau=>Jn [.b] (λ(av:Bool) aw=>If av (o p q aw) (aQ am 0 aw λax=>aQ am 1 aw λay=>aQ am 2 aw λaz=>aQ am 3 aw λa0=>aQ am 4 aw λa1=>XG.c a ax ay az a0 a1 aw λa2 a3=>bX (λa4 a5=>bX (λa6 a7=>If a6 (aQ am 0 a7 λa8=>aQ am 1 a7 λa9=>aQ am 2 a7 λba=>aQ am 3 a7 λbb=>aQ am 4 a7 λbc=>aR h 0 (.I a8) a7 λbd=>
 aR h 1 (.I a9) bd λbe=>aR h 2 (.I ba) be λbf=>aR h 3 (.I bb) bf λbg=>aR h 4 (.I bc) bg λbh=>o true (!a2) bh) (o p q a7)) λbi=>If a4 (bi true a5) (bX (λbj bk=>bi bj bk) λbl=>If ((!a2)==q) (aQ am 4 a5 λbm=>aQ h 4 a5 λbn=>bl (decide (bm>bn)) a5) (bl false a5))) λbo=>If (!p) (bo true a3) (bX (λbp bq=>bo bp bq) λbr=>If (!a2) (br (!q) a3) (br false a3)))) λbs=>dS au λbt=>gC bt bO ((am.add 0).add 0) λ(bu:Int)=>If (b<bu) (bs true au) (gC bt bO ((am.add 0).add 0) λ(bv:Int)=>aS bt am 0 λbw=>aS bt am 1 λbx=>aS bt am 2 λbz=>aS bt am 3 λb0=>aS bt am 4 λb1=>VQ Tryz.prog c [.agg #[.I bw,.I bx,.I bz,.I b0,.I b1]] [.I] au λb2 b3=>And (bt b3) <| bM (bv+b2) λb4=>bs (decide (b≥b4)) b3))
theorem Zx.o {a b c d e}(f:Zx.v a b c d e):Zx.c a b c d e:=Wa Tryz.func59 (x:=Zx.h) (R0 f)
def YZ.h:Hn:=.q .o2 (.q .o4 .l)
def YZ.v (a b c d e:Int)(f:Hp)(g:aN):Prop:=aV #[.I a,.I b,.I c,.I d,.I e] 106 f λh i=>bN ((h.add 0).add 1) i λj=>g j i
theorem YZ.o {a b c d e f g}(h:YZ.v a b c d e f g):YZ.c a b c d e f g:=Wa Tryz.func60 (x:=YZ.h) (R0 h)
def Y4.h:Hn:=.q .o1 (.q .o5 .l)
def Y4.v (a:R2)(b c:Int)(d:Hp)(e:aN):Prop:=XV.c a b c true d λf g=>e f g
theorem Y4.o {a b c d e}(f:Y4.v a b c d e):Y4.c a b c d e:=Wa Tryz.func70 (x:=Y4.h) (R0 f)
def X7.h:Hn:=.q .o2 (.q (.q .o3 .aJ) (.q (.o 12) (.q (.q .o2 .aJ) (.q (.q .o3 .aJ) (.q .o5 .l)))))
def X7.v (a:R2)(b:Int)(c:Hp)(d:Sl->Int->Hp->Prop):Prop:=W9.c a c λe f=>If (!e) (d ⟨none,0,0⟩ 5 f) (bJ a 1 f λh=>Lk .i64 (.ag 5) h b f λi=>aV #[.I 0,.I 0,.I 0,.I 0,.I 0] 106 f λj k=>aR j 0 (.I ((i.getD (0,0,0,0,0)).1)) k λl=>aR j 1 (.I ((i.getD (0,0,0,0,0)).2.1)) l λm=>aR j 2 (.I ((i.getD (0,0,0,0,0)).2.2.1)) m λn=>aR j 3 (.I ((i.getD (0,0,0,0,0)).2.2.2.1)) n λo=>aR j 4 (.I ((i.getD (0,0,0,0,0)).2.2.2.2)) o λp=>If (!i.isSome) (d ⟨none,0,0⟩ 8 p) (aQ j 0 p λq=>aQ j 1 p λr=>aQ j 2 p λs=>aQ j 3 p λt=>aQ j 4 p λu=>XG.c a q r s t u p λv w=>If v (d ⟨none,0,0⟩ 5 w) (aQ j 0 w λx=>aQ j 1 w λy=>aQ j 2 w λz=>aQ j 3 w λaa=>aQ j 4 w λab=>XK.c a x y z aa ab w λac ad=>d ac 0 ad)))
theorem X7.o {a b c d}(e:X7.v a b c d):X7.c a b c d:=Wa Tryz.func71 (x:=X7.h) (R0 e)
def Za.h:Hn:=.q .o2 (.q (.q .o4 (.q .o2 (.c (.q .o3 .l) .l))) (.q .gA .l))
def Za.v (a:R2)(b:Int)(c:Hp)(d:Int->Int->Hp->Prop):Prop:=Yk.c a b c λe f=>If (e != 0) (d 0 e f) (bG a 0 f λh=>Yd.c h b f λi j k=>d i j k)
theorem Za.o {a b c d}(e:Za.v a b c d):Za.c a b c d:=Wa Tryz.func76 (x:=Za.h) (R0 e)
def Q9.h:Hn:=.q .o1 (.q (.cU (.seq [.op,.op,.op,.cY true 4 (RI.ops 4),.op])) .l)
def Q9.v (a:R2)(b:Hp)(c:aO):Prop:=bX (λd e=>c d e) λf=>If (!a.isNone) (XY.c a b λg h i j k l=>f (decide (g>0)) l) (f false b)
theorem Q9.o {a b c}(d:Q9.v a b c):Q9.c a b c:=Wa Tryz.func77 (x:=Q9.h) (R0 d)
def YE.h:Hn:=.q .o1 (.q (.q .o4 (.q .o2 .aJ)) (.q .o8 .l))
def YE.v (a:R2)(b c:Int)(d:Hp)(e:aN):Prop:=Yk.c a b d λf g=>If (f != 0) (e f g) (bG a 0 g λi=>Xy.c i b c g λj k=>e j k)
theorem YE.o {a b c d e}(f:YE.v a b c d e):YE.c a b c d e:=Wa Tryz.func78 (x:=YE.h) (R0 f)
def XI.h:Hn:=.q .o2 (.q .o8 .l)
def XI.v (a b c d e:Int)(f:Hp)(g:aN):Prop:=aV #[.I a,.I b,.I c,.I d,.I e] 106 f λh i=>bN ((h.add 0).add 1) i λj=>bM (j+8) λk=>bM (k-1) λl=>Nz 8<|bM (l.tdiv 8) λm=>bM (m*8) λn=>g n i
theorem XI.o {a b c d e f g}(h:XI.v a b c d e f g):XI.c a b c d e f g:=Wa Tryz.func98 (x:=XI.h) (R0 h)
def X1.h:Hn:=.q .o2 .aL
def X1.v (a b c d e:Int)(f:Hp)(g:Fv->Hp->Prop):Prop:=aV #[.I a,.I b,.I c,.I d,.I e] 106 f λh i=>g ⟨156,#[],#[.pointer (some h)]⟩ i
theorem X1.o {a b c d e f g}(h:X1.v a b c d e f g):X1.c a b c d e f g:=Wa Tryz.func100 (x:=X1.h) (R0 h)
def Z8.h:Hn:=.q .o1 (.q .o4 .l)
def Z8.v (a:Int)(b:Hp)(c:aN):Prop:=bM (0-a) λd=>bM (d-1) λe=>c e b
theorem Z8.o {a b c}(d:Z8.v a b c):Z8.c a b c:=Wa Tryz.func101 (x:=Z8.h) (R0 d)
def Yx.h:Hn:=.q .o1 (.q .o1 (.k (.loop [(6,.I)] (.q (.q .o4 (.c .l .l)) (.q (.k (.cU (.tail 10 (RI.ops 10) [.op]))) .o3)))))
def Yx.v (a:R2)(b c d e f g:Int)(h:Hp)(i:aP):Prop:=aV #[.I b,.I c,.I d,.I e,.I f] 106 h λj k=>XS [bO] (λl=>l 0 k) λm (n:Int) o=>aQ j 0 o λp=>aQ j 1 o λq=>aQ j 2 o λr=>aQ j 3 o λs=>aQ j 4 o λt=>XI.c p q r s t o λu v=>If (n<u) (bG a 0 v λx=>bN ((j.add 0).add 0) v λy=>bM (y+n) λz=>Xy.c x z g v λaa ab=>bM (n+8) λac=>m ac ab) (i v)
theorem Yx.o {a b c d e f g h i}(j:Yx.v a b c d e f g h i):Yx.c a b c d e f g h i:=Wa Tryz.func102 (x:=Yx.h) (R0 j)
def XG.h:Hn:=.q .o2 (.q (.cU (.held true [7] (.tk [0,1,2,3,4,5,6] (.all [(7,.tk [8,9,10,11,12] (.done))])))) (.q (.cU (.seq [.op,.op,.op,.cY false 5 (RI.ops 5),.op])) .l))
def XG.v (a:R2)(b c d e f:Int)(g:Hp)(h:aO):Prop:=aV #[.I b,.I c,.I d,.I e,.I f] 106 g λi j=>dS j λk=>bW a λl=>aU k l 0 λm=>gC k bO ((i.add 0).add 2) λ(n:Int)=>XW.c m n j λo p q=>bX (λr s=>h r s) λt=>If (p != 0) (t true q) (bN ((i.add 0).add 3) q λu=>t (o != u) q)
theorem XG.o {a b c d e f g h}(i:XG.v a b c d e f g h):XG.c a b c d e f g h:=Wa Tryz.func103 (x:=XG.h) (R0 i)
def Zm.h:Hn:=.q .o1 (.q .o5 .l)
def Zm.v (a:R2)(b c:Int)(d:Hp)(e:aN):Prop:=XV.c a b c false d λf g=>e f g
theorem Zm.o {a b c d e}(f:Zm.v a b c d e):Zm.c a b c d e:=Wa Tryz.func109 (x:=Zm.h) (R0 f)
def XV.h:Hn:=.q .o1 (.q (.q .o3 .aK) (.q (.q .o4 (.q .o2 .aJ)) (.q (.o 12) (.q (.k (.q (.cU (.seq [.op,.op,.op,.cY true 6 (RI.ops 6),.op])) (.c .aM (.q .o3 (.c .aM (.q .o4 (.c .aM (.q (.cU (.seq [.op,.op,.cY true 5 (RI.ops 5),.op])) .aK)))))))) (.q .o3 (.q .o6 (.q .o6 (.q (.cU (.tail 8 (RI.ops 8) [.op])) .aM))))))))
def XV.v (a:R2)(b c:Int)(d:Bool)(e:Hp)(f:aN):Prop:=W9.c a e λg h=>If (!g) (f 5 h) (YM.c a b h λi j=>If (i != 0) (f i j) (bJ a 1 j λl=>Lk .i64 (.ag 5) l c j λm=>aV #[.I 0,.I 0,.I 0,.I 0,.I 0] 106 j λn o=>aR n 0 (.I ((m.getD (0,0,0,0,0)).1)) o λp=>aR n 1 (.I ((m.getD (0,0,0,0,0)).2.1)) p λq=>aR n 2 (.I ((m.getD (0,0,0,0,0)).2.2.1)) q λr=>aR n 3 (.I ((m.getD (0,0,0,0,0)).2.2.2.1)) r λs=>aR n 4 (.I ((m.getD (0,0,0,0,0)).2.2.2.2)) s λt=>bX (λu v=>If u (f 9 v) (If (!m.isSome) (f 8 v) (aQ n 0 v λw=>aQ n 1 v λx=>aQ n 2 v λy=>aQ n 3 v λz=>aQ n 4 v λaa=>XG.c a w x y z aa v λab ac=>If ab (f 5 ac) (bX (λad ae=>If ad (f 10 ae) (aQ n 0 ae λaf=>aQ n 1 ae λag=>aQ n 2 ae λah=>aQ n 3 ae λai=>aQ n 4 ae λaj=>Yx.c a af ag ah ai aj (-1234567) ae λak=>bJ a 1 ak λam=>lN .i64 (.ag 5) am c ak λan=>bJ a 2 an λap=>kH .i64 .b ap c true an λaq=>bG a 0 aq λau=>bN ((n.add 0).add 2) aq λav=>ZN.c au b av aq λaw ax=>f 0 ax)) λay=>If d (aQ n 0 ac λaz=>aQ n 1 ac λa0=>aQ n 2 ac λa1=>aQ n 3 ac λa2=>aQ n 4 ac λa3=>XK.c a az a0 a1 a2 a3 ac λa4 a5=>ay (decide (((a4.len:Nat):Int)>0)) a5) (ay false ac))))) λa6=>If (!m.isSome) (bJ a 2 t λa8=>
 Lk .i64 .b a8 c t λa9=>a6 (a9.getD false) t) (a6 false t)))
theorem XV.o {a b c d e f}(g:XV.v a b c d e f):XV.c a b c d e f:=Wa Tryz.func118 (x:=XV.h) (R0 g)
def XK.h:TX:=.nx (.o 3) (.nx (.o 1) (.r1 (.o 2) bO (.block (.seq (.o 11) (.seq (.cU (.seq [.op,.op,.op,.cY false 4 [.op,.op,.op,.op]])) (.cond (.o 5) (.leaf))))) (.seq (.o 2) (.leaf))))
def XK.v (a:R2)(b c d e f:Int)(g:Hp)(h:Sl->Hp->Prop):Prop:=aV #[.pointer a] 50 g λi j=>aV #[.I b,.I c,.I d,.I e,.I f] 106 j λk l=>aV #[.slice none 0 0] 31 l λm n=>aQ k 0 n λo=>aQ k 1 n λp=>aQ k 2 n λq=>aQ k 3 n λr=>aQ k 4 n λs=>X1.c o p q r s n λt u=>Dt Tryz.prog (e1 bO) t u (λ(v:Int) w x=>fX i x λy=>bG y 0 x λaa=>Yd.c aa v x λab ac ad=>bX (λae af=>If ae (jH m af λag=>aV #[.I v] 3 af λah ai=>App ag 1 8 3 [.I 0] ⟨some ah,1,1⟩ ai λaj ak=>dF m (.slice aj.a aj.len aj.cap) ak λal=>w al) (w af)) λam=>If (ac != 0) (am true ad) (Z8.c v ad λan ao=>am (ab != an) ao)) λap=>jH m ap λaq=>u6 u.size ap λar=>h aq ar
theorem XK.o {a b c d e f g h}(i:XK.v a b c d e f g h):XK.c a b c d e f g h:=FV Tryz.func119 (x:=XK.h) (R0 i)
def Yk.h:Hn:=.q .o1 (.q (.q .o3 .aK) (.q .o9 (.q (.k (.q (.cU (.seq [.op,.op,.op,.cY false 3 (RI.ops 3),.op])) (.c .aM (.q .o4 .aK)))) .aM)))
def Yk.v (a:R2)(b:Int)(c:Hp)(d:aN):Prop:=W9.c a c λe f=>If (!e) (d 5 f) (Zx.c a b ⟨98,#[],#[]⟩ f λg h i j k l m=>aV #[.I 0,.I 0,.I 0,.I 0,.I 0] 106 m λn o=>aR n 0 (.I g) o λp=>aR n 1 (.I h) p λq=>aR n 2 (.I i) q λr=>aR n 3 (.I j) r λs=>aR n 4 (.I k) s λt=>bX (λu v=>If u (d 7 v) (aQ n 0 v λw=>aQ n 1 v λx=>aQ n 2 v λy=>aQ n 3 v λz=>aQ n 4 v λaa=>XG.c a w x y z aa v λab ac=>If ab (d 5 ac) (d 0 ac))) λad=>If (!l) (ad true t) (Nz 8 <| ad ((b.tmod 8) != 0) t))
theorem Yk.o {a b c d}(e:Yk.v a b c d):Yk.c a b c d:=Wa Tryz.func123 (x:=Yk.h) (R0 e)
def cI.sk (l:Nat)(cap0:Addr)(U:Hp)(R:aP):Prop:=DM Tryz.prog 156 #[.func (.yield l) #[] #[],.pointer (some cap0)] U R
def cI.wO:Hn:=.seq (.seq (.o 4) (.block (.loop [(3,.one bO)] (.seq (.seq (.o 5) (.cond (.leaf) (.leaf))) (.seq (.block (.seq (.leaf) (.cond (.leaf) (.leaf)))) (.o 3)))))) (.seq (.cU (.held true [] (.tk [0,1,2,3] (.all [(4,.take 5 (.take 6 (.done)))])))) (.block (.loop [(4,.one bO)] (.seq (.seq (.o 10) (.cond (.leaf) (.leaf))) (.seq (.block (.seq (.leaf) (.cond (.leaf) (.leaf)))) (.o 3))))))
def cI.wN (l:Nat)(cap0:Addr)(U:Hp)(R:aP):Prop:=
 gH .i64 ((cap0.add 0).add 2) U λvw=>
 XS [bO] (λI=>I vw U) λJ (vw1:Int) v=>
 gH .i64 ((cap0.add 0).add 0) v λt11=>
 If (decide (vw1<t11)) (HX Tryz.prog l [.int .i64 vw1] v λmore v1=>
  If (!more) (R v1)
   (Ar .i64 (vw1+8) λvw2=>
   J vw2 v1))
  (dS v λS=>
  gC S bO ((cap0.add 0).add 0) λ(t21:Int)=>
  gC S bO (cap0.add 0) λ(t22:Int)=>
  gC S bO (cap0.add 1) λ(t221:Int)=>
  gC S bO (cap0.add 2) λ(t222:Int)=>
  gC S bO (cap0.add 3) λ(t223:Int)=>
  gC S bO (cap0.add 4) λ(t224:Int)=>
  XI.c t22 t221 t222 t223 t224 v λt23 v2=>
  And (S v2) <|
  Ar .i64 (t21+t23) λvw3=>
  XS [bO] (λI1=>I1 vw3 v2) λJ1 (vw4:Int) v3=>
  Ar .i64 (vw4+8) λt26=>
  gH .i64 ((cap0.add 0).add 2) v3 λt29=>
  gH .i64 ((cap0.add 0).add 3) v3 λt32=>
  Ar .i64 (t29+t32) λt33=>
  If (decide (t26<=t33)) (HX Tryz.prog l [.int .i64 vw4] v3 λmore1 v4=>
   If (!more1) (R v4)
    (Ar .i64 (vw4+8) λvw5=>
    J1 vw5 v4))
   (R v3))
theorem cI.tD {l:Nat}{cap0:Addr}{U:Hp}{R:aP}(hv:cI.wN l cap0 U R):cI.sk l cap0 U R:=
 Oq Tryz.func156 (x:=cI.wO) (args:=[.func (.yield l) #[] #[],.pointer (some cap0)]) (R:=R) (R0 hv)
def YM.h:Hn:=.q .o1 (.q (.q (.cU (.seq [.op,.op,.op,.cY false 8 (RI.ops 8)])) .aK) (.q (.q .o7 .aK) .aM))
def YM.v (a:R2)(b:Int)(c:Hp)(d:aN):Prop:=bX (λe f=>If e (d 1 f) (bG a 0 f λh=>YW.c h b f λi j=>If (!(i.toList==(ByteArray.mk #[]).toList)) (d 5 j) (d 0 j))) λk=>If (b<0) (k true c) (bG a 0 c λm=>XY.c m c λn o p q r s=>k (decide (b≥p)) s)
theorem YM.o {a b c d}(e:YM.v a b c d):YM.c a b c d:=Wa Tryz.func162 (x:=YM.h) (R0 e)
end Go.Proofs
namespace Go.Ar
open Go Go.Vc Go.Proofs
open Go.Vc (bU dA cO)
variable {U σ0 v w w':Hp}{F P Q X T:Rg}{L:dE}{H H':Hw}{held:List Pc}{s0 sp:Sp}{t n:Nat}{g:Th}{gb km fm m:Nat}
theorem gI {S:aP}{b i:Nat}{cs:List Value}{c:CK}{y:c.T}(hS:∀m,S m->bY m b cs)(hc:cs[i]?=some (c.v y)){K:c.T->Prop}(hK:K y):gC S c (Addr.add ⟨b,0,none⟩ i) K:=
 ⟨y,λm a=>by rw[add_lit,(hS m a).cell,zH];exact hc,hK⟩
theorem rX {S:aP}{b:Nat}{cs:List Value}{c:CK}{y:c.T}(hS:∀m,S m->bY m b cs)(hc:cs[0]?=some (c.v y)){K:c.T->Prop}(hK:K y):gC S c ⟨b,0,none⟩ K:=
 ⟨y,λm a=>by rw[(hS m a).cell];exact hc,hK⟩
theorem pw {S:aP}{b i j:Nat}{cs:List Value}{c:CK}{y:c.T}(hS:∀m,S m->bY m b cs)(hc:cs[i+j]?=some (c.v y)){K:c.T->Prop}(hK:K y):gC S c (Addr.add (Addr.add ⟨b,0,none⟩ i) j) K:=
 ⟨y,λm a=>by rw[add_lit,add_lit,(hS m a).cell,zH];exact hc,hK⟩
abbrev B5:=Int×Int×Int×Int×Int
def fB (b:B5):List Value:=[.int .i64 b.1,.int .i64 b.2.1,.int .i64 b.2.2.1,.int .i64 b.2.2.2.1,.int .i64 b.2.2.2.2]
def Zk (n:Int):Int:=(n+7)/8*8
structure gL (b:B5):Prop where
 s:1<=b.2.1/\b.2.1<=1024
 base:0<=b.2.2.1/\b.2.2.1%8=0
 z:16<=b.1-b.2.2.1/\b.1-b.2.2.1<=256/\b.1%8=0
 t:b.1+Zk b.2.1+16<=b.2.2.1+b.2.2.2.1/\b.2.2.2.1%8=0
 m:b.2.2.1+b.2.2.2.1<=270000
theorem ZE {n:Int}(h:0<=n):n<=Zk n/\Zk n<=n+7/\Zk n%8=0:=by unfold Zk;omega
structure Gu where
 kn:List (Int×B5)
 fr:List (Int×Bool)
 no:Int
def oY:Gu:=⟨[],[],0⟩
def VT (b:B5):Nat:=(b.1-b.2.2.1).toNat/8
def G9 (b:B5):Nat:=(b.2.2.1+b.2.2.2.1-b.1-Zk b.2.1).toNat/8
def Zl (b:B5):List Int:=((List.range (VT b)).map λ(i:Nat)=>b.2.2.1+8*(i:Int))++(List.range (G9 b)).map λ(i:Nat)=>b.1+Zk b.2.1+8*(i:Int)
theorem GN (b:B5):(Zl b).length=VT b+G9 b:=by unfold Zl;simp
theorem M7 {b:B5}{i:Nat}(h:i<VT b):(Zl b)[i]?=some (b.2.2.1+8*(i:Int)):=by
 unfold Zl;rw[zd (by simpa using h)];simp[h]
theorem O4 {b:B5}{i:Nat}(h:i<G9 b):(Zl b)[VT b+i]?=some (b.1+Zk b.2.1+8*(i:Int)):=by
 unfold Zl;rw[zp aA];simp[h]
theorem Gg {b:B5}(bi:gL b){z:Int}(hz:z∈Zl b):b.2.2.1<=z/\z%8=0/\z+8<=b.2.2.1+b.2.2.2.1/\(z+8<=b.1\/b.1+Zk b.2.1<=z):=by
 obtain⟨s,⟨r,d⟩,⟨g,j,u⟩,⟨t,p⟩,m⟩:=bi;have a:=ZE (n:=b.2.1) O;unfold Zl at hz;rcases zM.1 hz with h|h
 ·obtain⟨i,hi,rfl⟩:=zE.1 h;have:=zg.1 hi;unfold VT at this;exact⟨O,O,O,.inl O⟩
 ·obtain⟨i,hi,rfl⟩:=zE.1 h;have:=zg.1 hi;unfold G9 at this;exact⟨O,O,O,.inr O⟩
def jy (z:Int):Int:=-z-1
def sR (hp km fm:Nat)(x:Gu):List Value:=[.pointer (some ⟨hp,0,none⟩),.map (some km),.map (some fm),.int .i64 x.no]
structure GP (σ0 U:Hp) (L:dE) (H:Hw) (held:List Pc) (s0:Sp) (P:Rg) (gb km fm:Nat) (x:Gu):Prop where
 e:aF σ0 U
 h:HH U P L H
 hi:HI H held s0
 cf:iY H
 pg:H.cf.aG<=128
 pP:∀b,P b->σ0.size<=b/\b<U.size
 rQ:σ0.size<=gb/\¬P gb
 sS:σ0.size<=km/\¬P km
 s7:σ0.size<=fm/\¬P fm
 n1:gb≠km
 n2:gb≠fm
 n3:km≠fm
 b:bY U gb (sR L.p km fm x)
 m:dM U km .i64 (.ag 5) x.kn
 f:dM U fm .i64 .b x.fr
 g0:iW (λb=>σ0.size<=b)/\¬σ0.size<=1
variable {x y:Gu}
theorem GP.fr (p:GP σ0 U L H held s0 P gb km fm x)(e:aF U w):GP σ0 w L H held s0 P gb km fm x:=
 ⟨p.e.trans e,p.h.bP e,p.hi,p.cf,p.pg,λb a=>⟨(p.pP b a).1,by have:=(p.pP b a).2;have:=e.1;omega⟩,p.rQ,p.sS,p.s7,p.n1,p.n2,p.n3,e.bV p.b id,e.fV p.m id,e.fV p.f id,p.g0⟩
theorem GP.out (p:GP σ0 U L H held s0 P gb km fm x)(e:Ext T U w)(hT:∀b,b<U.size->T b->¬P b/\b≠gb/\b≠km/\b≠fm/\σ0.size<=b):GP σ0 w L H held s0 P gb km fm x:=by
 have s:=e.1;have a:=p.b.lt;have r:=p.m.lt;have g:=p.f.lt;have i:Ext (λb=>T b/\b<U.size) U w:=⟨e.1,λb a g=>e.2 b a λd=>g ⟨d,a⟩⟩;refine⟨Ext.dW p.e i λb a=>.inr (hT b a.2 a.1).2.2.2.2,p.h.bS i (λb a j d=>(hT b a d.1).1 j) (λb a=>?_) (λa=>?_),p.hi,p.cf,p.pg,λb a=>⟨(p.pP b a).1,by have:=(p.pP b a).2;omega⟩,p.rQ,p.sS,p.s7,p.n1,p.n2,p.n3,e.bV p.b λd=>(hT gb a d).2.1 rfl,e.fV p.m λd=>(hT km r d).2.2.1 rfl,e.fV p.f λd=>(hT fm g d).2.2.2.1 rfl,p.g0⟩
 ·exact p.g0.1 b (hT b a.2 a.1).2.2.2.2
 ·exact p.g0.2 (hT _ a.2 a.1).2.2.2.2
theorem GP.step (p:GP σ0 U L H held s0 P gb km fm x){ts':List eR}(e:Ext P U w)(h':HH w (Grow P U) {L with ts:=ts'} H'){held':List Pc}{s0':Sp}(hi':HI H' held' s0')(k:Q2 H' H) :
 GP σ0 w {L with ts:=ts'} H' held' s0' (Cut (Grow P U) w) gb km fm x:=by
 have u:=e.1;have a:=p.b.lt;have s:=p.m.lt;have j:=p.f.lt;have g:∀b,b<U.size->¬P b->¬Cut (Grow P U) w b:=λb d r i=>by
  rcases i.1 with h3|h3
  ·exact r h3
  ·omega
 refine⟨Ext.dW p.e e λb a=>.inr (p.pP b a).1,h'.cut,hi',p.cf.bS k,by rw[k.2.1];exact p.pg,λb a=>⟨?_,a.2⟩,⟨p.rQ.1,g gb a p.rQ.2⟩,⟨p.sS.1,g km s p.sS.2⟩,⟨p.s7.1,g fm j p.s7.2⟩,p.n1,p.n2,p.n3,e.bV p.b p.rQ.2,e.fV p.m p.sS.2,e.fV p.f p.s7.2,p.g0⟩;have:=p.e.1;rcases a.1 with d|d
 ·exact(p.pP b d).1
 ·omega
theorem GP.fA (p:GP σ0 U L H held s0 P gb km fm x)(e:Ext (λb=>b=gb\/b=km\/b=fm) U w)(hb:bY w gb (sR L.p km fm y))(hm:dM w km .i64 (.ag 5) y.kn)(hf:dM w fm .i64 .b y.fr):GP σ0 w L H held s0 P gb km fm y:=by
 have i:=e.1;have a:∀b,(b=gb\/b=km\/b=fm)->σ0.size<=b/\¬P b:=λb hb=>by
  rcases hb with rfl|rfl|rfl
  ·exact p.rQ
  ·exact p.sS
  ·exact p.s7
 exact⟨Ext.dW p.e e λb hb=>.inr (a b hb).1,p.h.bS e (λb _ g d=>(a b d).2 g) (λb hb=>p.g0.1 b (a b hb).1) (λhb=>p.g0.2 (a _ hb).1),p.hi,p.cf,p.pg,λb hb=>⟨(p.pP b hb).1,by have:=(p.pP b hb).2;omega⟩,p.rQ,p.sS,p.s7,p.n1,p.n2,p.n3,hb,hm,hf,p.g0⟩
theorem Ul (p:GP σ0 U L H held s0 P gb km fm x){R:aO}(hR:R true U):W9.c (aW gb) U R:=by
 refine W9.o ?_;unfold W9.v;exact bX.intro (cF rfl (bL (p.b.rP rfl hR)))
theorem HD (b:B5)(h0:0<=b.2.1)(h1:b.2.1<=1000000){R:aN}(hR:∀σ',aF U σ'->R (Zk b.2.1) σ'):XI.c b.1 b.2.1 b.2.2.1 b.2.2.2.1 b.2.2.2.2 U R:=by
 refine XI.o ?_;unfold XI.v;refine nw (cs:=fB b) λv d e a=>a.fD rfl (ar O O (ar O O (nz aB (ar (by rw[Yj O];omega) (by rw[Yj O];omega) ?_))));rw[Yj O];refine ar O O ?_;have:(b.2.1+8-1)/8*8=Zk b.2.1:=by unfold Zk;omega
 rw[this];exact hR v e
theorem Je (z:Int)(h0:0<=z)(h1:z<=1000000){R:aN}(hR:R (jy z) U):Z8.c z U R:=by
 refine Z8.o ?_;unfold Z8.v;refine ar O O (ar O O ?_);have:0-z-1=jy z:=by unfold jy;omega
 rw[this];exact hR
theorem JU (b:B5){R:Fv->Hp->Prop}(hR:∀σ',σ'.size=U.size+1->aF U σ'->bY σ' U.size (fB b)->R ⟨156,#[],#[.pointer (some ⟨U.size,0,none⟩)]⟩ σ'):X1.c b.1 b.2.1 b.2.2.1 b.2.2.2.1 b.2.2.2.2 U R:=by
 refine X1.o ?_;unfold X1.v;exact nw (cs:=fB b) λv a e d=>hR v a e d
theorem Ia {P:Program}{l:Nat}{args:List Value}{h:Hp}{R R':Bool->Hp->Prop}(hy:HX P l args h R)(hm:∀b w,R b w->R' b w):HX P l args h R':=λw d=>by
 obtain⟨g,a,i,r,u,s⟩:=hy w d;exact⟨g,a,i,r,u,s.mono λe x ⟨m,b,j,p⟩=>⟨m,b,j,hm _ _ p⟩⟩
theorem Ex {b:B5}(bi:gL b):xR Tryz.prog ⟨156,#[],#[.pointer (some ⟨n,0,none⟩)]⟩ ((Zl b).map (e1 bO)) (λs=>bY s n (fB b)):=by
 intro l J hst hKp hy h h0;obtain⟨s,⟨K,H⟩,⟨N,P,L⟩,⟨t,Q⟩,R⟩:=bi;have M:=ZE (n:=b.2.1) O;have E:(VT b:Int)*8=b.1-b.2.2.1:=by unfold VT;omega
 have G:(G9 b:Int)*8=b.2.2.1+b.2.2.2.1-b.1-Zk b.2.1:=by unfold G9;omega
 show cI.sk l ⟨n,0,none⟩ h λD=>J ((Zl b).map (e1 bO)).length D;rw[zk,GN];refine cI.tD ?_;unfold cI.wN;refine(hKp 0 h h0).fD rfl (Qj (a:=bO) (λ(z:Int) s=>∃i:Nat,z=b.2.2.1+8*(i:Int)/\i<=VT b/\J i s) (λz _=>(b.1-z).toNat) ⟨0,O,O,h0⟩ ?_);rintro(z:Int) s ⟨i,rfl,hi,hJ⟩;have B:=hKp i s hJ;refine B.fD rfl (cN (λw=>?_) λx=>?_)
 ·have d:i<VT b:=by omega
  have A:((Zl b).map (e1 bO))[i]?=some [Value.int .i64 (b.2.2.1+8*(i:Int))]:=by rw[zZ,M7 d];rfl
  refine Ia (hy i _ A s hJ) λF C ⟨j,g⟩=>?_;subst j;exact cD rfl (ar O O ⟨⟨i+1,O,O,g⟩,O⟩)
 ·have d:i=VT b:=by omega
  subst d;have p:∀m,aF s m->bY m n (fB b):=λm e=>e.bV B id;refine⟨λm=>aF s m,Ext.refl _ _,pw (c:=bO) (y:=b.1) p rfl (gI (c:=bO) (y:=b.1) p rfl (gI (c:=bO) (y:=b.2.1) p rfl (gI (c:=bO) (y:=b.2.2.1) p rfl (gI (c:=bO) (y:=b.2.2.2.1) p rfl (gI (c:=bO) (y:=b.2.2.2.2) p rfl ?_)))))⟩;refine HD b O O λs1 u=>⟨u,ar O O ?_⟩;refine Qj (a:=bO) (λ(z:Int) s=>∃i:Nat,z=b.1+Zk b.2.1+8*(i:Int)/\i<=G9 b/\J (VT b+i) s) (λz _=>(b.2.2.1+b.2.2.2.1-z).toNat) ⟨0,O,O,hst _ _ _ hJ u⟩ ?_;rintro(z:Int) s2 ⟨i,rfl,hi,hJ2⟩;have r:=hKp _ s2 hJ2;refine ar O O (r.fD rfl (r.fD rfl (ar O O (cN (λw=>?_) λx=>?_))))
  ·have d:i<G9 b:=by omega
   have A:((Zl b).map (e1 bO))[VT b+i]?=some [Value.int .i64 (b.1+Zk b.2.1+8*(i:Int))]:=by rw[zZ,O4 d];rfl
   refine Ia (hy _ _ A s2 hJ2) λF C ⟨j,g⟩=>?_;subst j;exact cD rfl (ar O O ⟨⟨i+1,O,O,g⟩,O⟩)
  ·have d:i=G9 b:=by omega
   subst d;exact hJ2
def UJ (H:Hw)(b:B5):Bool:=!(Kx H b.2.2.1==some b.2.2.2.1)
theorem yz (p:GP σ0 U L H held s0 P gb km fm x)(b:B5){R:aO}(hR:∀σ',aF U σ'->R (UJ H b) σ'):XG.c (aW gb) b.1 b.2.1 b.2.2.1 b.2.2.2.1 b.2.2.2.2 U R:=by
 refine XG.o ?_;unfold XG.v;refine nw (cs:=fB b) λv s e j=>?_;have g:=p.fr e;refine⟨λm=>aF v m,Ext.refl _ _,bL (gI (c:=.p) (y:=some ⟨L.p,0,none⟩) (λm e=>e.bV g.b id) rfl (pw (c:=bO) (y:=b.2.2.1) (λm e=>e.bV j id) rfl (E0 g.h b.2.2.1 λr e1=>?_)))⟩;have d:=e1.bV j id;have a:=hR r (e.trans e1);refine bX.intro ?_;cases hu:Kx H b.2.2.1 with
 | none=>
  unfold UJ at a;rw[hu]at a;exact cF rfl a
 | some u=>
  unfold UJ at a;rw[hu]at a;refine cD rfl (d.fD rfl ?_);have:(!(some u==some b.2.2.2.1))=((some u).getD 0 != b.2.2.2.1):=by simp[bne]
  rw[this]at a;exact a
def ZX (H:Hw)(thread:Int):Int:=if thread<0\/thread≥(H.cf.threads:Int)then 1 else if(UG H thread).isSome then 5 else 0
theorem SI (p:GP σ0 U L H held s0 P gb km fm x)(thread:Int){R:aN}(hR:∀σ',aF U σ'->R (ZX H thread) σ'):YM.c (aW gb) thread U R:=by
 refine YM.o ?_;unfold YM.v;refine KP (λr u=>aF U u/\r=decide (thread<0\/thread≥(H.cf.threads:Int))) (λr u ⟨d,g⟩=>?_) λJ j=>?_
 ·by_cases hc:thread<0\/thread≥(H.cf.threads:Int)
  ·have a:=hR u d;unfold ZX at a;rw[zC hc]at a;exact cF (by rw[g];exact zI hc) a
  ·have i:=p.fr d;refine cD (by rw[g];exact zL hc) (bL (i.b.rP rfl (Lx i.h thread λs w e2 m=>?_)));have a:=hR w (d.trans e2);unfold ZX at a;rw[zB hc]at a;rw[m];cases hp:UG H thread with
   | none=>rw[hp]at a;exact cD rfl a
   | some q=>rw[hp]at a;exact cF rfl a
 ·refine cN (λh=>j _ _ ⟨Ext.refl _ _,by rw[zI];exact .inl h⟩) λh=>bL (p.b.rP rfl (GF p.h λu e=>j _ _ ⟨e,?_⟩));rw[kU,decide_eq_true_iff,decide_eq_true_iff];exact⟨.inr,λy=>y.resolve_left h⟩
theorem NX (h:HH U F L H)(hp:1<=H.cf.aG){R:aO}(hR:∀σ',aF U σ'->R true σ'):Q9.c (aW L.p) U R:=by
 refine Q9.o ?_;unfold Q9.v;refine bX.intro (cF rfl (GF h λw e=>?_));have:decide ((H.cf.aG:Int)>0)=true:=zI O;rw[this];exact hR w e
theorem Lh (e0:aF σ0 U)(h:HH U P L H)(hi:HI H held s0)(hc:iY H)(hpg:H.cf.aG<=128)(hP:∀b,P b->σ0.size<=b/\b<U.size)(hg:iW (λb=>σ0.size<=b)/\¬σ0.size<=1){R:Option Addr->Int->Hp->Prop}
 (hR:∀w gb km fm,aF U w->U.size<=gb/\U.size<=km/\U.size<=fm->GP σ0 w L H held s0 P gb km fm oY->R (some ⟨gb,0,none⟩) 0 w):Kg.c (aW L.p) U R:=by
 refine Kg.o ?_;unfold Kg.v;refine NX h hc.1 λv e=>cD rfl (tG λj s e1 r=>tG λA m e2 x=>nw (cs:=sR L.p v.size j.size oY) λv3 z d u=>?_);have B:=e.1;have D:=e0.1;have a:=((e.trans e1).trans e2).trans d;have g:∀b,U.size<=b->¬P b:=λb C y=>by have:=(hP b y).2;omega
 exact hR v3 A.size v.size j.size a ⟨O,O,O⟩ ⟨e0.trans a,h.bP a,hi,hc,hpg,λb i=>⟨(hP b i).1,by have:=(hP b i).2;have:=a.1;omega⟩,⟨O,g _ O⟩,⟨O,g _ O⟩,⟨O,g _ O⟩,O,O,O,u,(e2.trans d).fV (r _ _) id,d.fV (x _ _) id,hg⟩
end Go.Ar
namespace Go.Ar
open Go Go.Vc Go.Proofs
open Go.Vc (bU dA cO)
variable {U σ0 v w w':Hp}{F P Q X T:Rg}{L:dE}{H H':Hw}{held:List Pc}{s0 sp:Sp}{t n:Nat}{g:Th}{gb km fm m:Nat}{x y:Gu}{b:B5}
def iI (sp:Sp)(l:List Int)(f:Int->Int):Sp:=l.foldl (λs z=>ZL s z (f z)) sp
theorem Mm (sp:Sp)(z:Int)(l:List Int)(f:Int->Int):iI sp (z::l) f=iI (ZL sp z (f z)) l f:=rfl
theorem Dd (sp:Sp)(l:List Int)(z:Int)(f:Int->Int):iI sp (l++[z]) f=ZL (iI sp l f) z (f z):=by unfold iI;rw[vS];rfl
theorem U5 {sp:Sp}{x:Nat}:eO sp ((8*x:Nat):Int)=0↔gf sp.st (x/32)≠0:=by
 unfold eO;rw[zB O,show((8*x:Nat):Int).toNat/256=x/32 by omega];unfold gf;split
 ·rename_i h;rw[h];simp
 ·rename_i h;exact⟨λ_=>h,λ_=>rfl⟩
theorem AZ (sp:Sp)(x:Nat):QZ sp ((8*x:Nat):Int)=if gf sp.st (x/32)≠0 then sp.wd x else 0:=by
 unfold QZ;by_cases h:gf sp.st (x/32)≠0
 ·rw[zC (U5.2 h),zC h];congr 1;omega
 ·rw[zB (λa=>h (U5.1 a)),zB h]
theorem yG (f:Int->Int):∀(l:List Int) (sp:Sp),(∀z∈l,0<=z/\z%8=0)->(iI sp l f).st.length=sp.st.length/\(∀p,gf (iI sp l f).st p=0↔gf sp.st p=0) ∧
 ∀w:Nat,(iI sp l f).wd w=if((8*w:Nat):Int)∈l/\gf sp.st (w/32)≠0 then f ((8*w:Nat):Int)else sp.wd w
 | [],sp,_=>⟨rfl,λ_=>Iff.rfl,λw=>by rw[zB aA];rfl⟩
 | z::l,sp,hl=>by
  obtain⟨i1,i2,i3⟩:=yG f l (ZL sp z (f z)) λz a=>hl z (mj _ a);obtain⟨d,b,g⟩:=CQ sp z (f z);have r:=hl z mJ;obtain⟨zn,rfl⟩:∃c:Nat,z=((8*c:Nat):Int):=⟨z.toNat/8,O⟩;rw[Mm];refine⟨i1.trans d,λp=>(i2 p).trans (b p),λw=>?_⟩;rw[i3,g];have a:=b (w/32);by_cases hm:gf sp.st (w/32)≠0
  ·by_cases hw:((8*w:Nat):Int)∈l
   ·rw[zC ⟨hw,λh=>hm (a.1 h)⟩,zC ⟨mj _ hw,hm⟩]
   ·rw[zB λh=>hw h.1];by_cases he:w=zn
    ·subst he;rw[zC ⟨U5.2 hm,O⟩,zC ⟨mJ,hm⟩]
    ·rw[zB λh=>he (by have:=h.2;omega),zB λh=>(zW.1 h.1).elim (λh=>he O) hw]
  ·have key:¬(eO sp ((8*zn:Nat):Int)=0/\w=((8*zn:Nat):Int).toNat/8):=λh=>by
    have i:=U5.1 h.1;have m:w=zn:=by omega
    subst m;exact hm i
   rw[zB λh=>hm λj=>h.2 (a.2 j),zB key,zB λh=>hm h.2]
theorem HI.iI (f:Int->Int):∀(l:List Int) {H:Hw} {s0:Sp},HI H held s0->∃s0',HI {H with sp:=Go.Ar.iI H.sp l f} held s0'
 | [],H,s0,h=>⟨s0,h⟩
 | z::l,H,s0,h=>HI.iI f l (h.write z (f z))
theorem Va {f:Int->Int}{l:List Int}{sp:Sp}(hl:∀z∈l,0<=z/\z%8=0)(w:Nat):QZ (iI sp l f) ((8*w:Nat):Int)=if((8*w:Nat):Int)∈l/\gf sp.st (w/32)≠0 then f ((8*w:Nat):Int)else QZ sp ((8*w:Nat):Int):=by
 obtain⟨_,a,b⟩:=yG f l sp hl;rw[AZ,AZ];by_cases hm:gf sp.st (w/32)≠0
 ·rw[zC λh=>hm ((a _).1 h),b];by_cases hw:((8*w:Nat):Int)∈l
  ·rw[zC ⟨hw,hm⟩,zC ⟨hw,hm⟩]
  ·rw[zB λh=>hw h.1,zB λh=>hw h.1,zC hm]
 ·rw[zB λh=>hm λd=>h ((a _).2 d),zB λh=>hm h.2,zB hm]
def ZM (b:B5):Nat:=(Zk b.2.1/8).toNat
def Xr (b:B5):List Int:=(List.range (ZM b)).map λ(i:Nat)=>b.1+8*(i:Int)
theorem U8 (bi:gL b){z:Int}(hz:z∈Xr b):b.1<=z/\z%8=0/\z+8<=b.1+Zk b.2.1:=by
 obtain⟨s,⟨r,d⟩,⟨g,j,u⟩,⟨t,p⟩,m⟩:=bi;have a:=ZE (n:=b.2.1) O;obtain⟨i,hi,rfl⟩:=zE.1 hz;have:=zg.1 hi;unfold ZM at this;omega
theorem GP.write (p:GP σ0 U L H held s0 P gb km fm x)(gc:Gc σ0)(z u:Int)(hz:z<=9223372036854775807){R:aN}
 (hR:∀w s0' P',Ext P U w->GP σ0 w L {H with sp:=ZL H.sp z u} held s0' P' gb km fm x->(∀c,P' c->P c\/U.size<=c)->R (eO H.sp z) w):Xy.c (aW L.p) z u U R:=by
 refine RS p.h (gc.bP p.e) z u hz λw e b=>?_;exact hR w _ _ e (p.step (ts':=L.ts) e b (p.hi.write z u) ⟨rfl,rfl,rfl,rfl⟩) λc a=>a.1
theorem JY {D:Nat}{s:Hp}{K:aP}(h:s[D]?=some (.deferred (some [])))(hK:∀w,Ext (· = D) s w->K w):u6 D s K:=
 ⟨h,hK _ ⟨by simp,λb d a=>by rw[Array.getElem?_setIfInBounds,zB λh=>a h.symm]⟩⟩
set_option maxRecDepth 8000 in
theorem Ic (p:GP σ0 U L H held s0 P gb km fm x)(gc:Gc σ0)(bi:gL b)(val:Int){R:aP}
 (hR:∀w s0' P',Ext P U w->GP σ0 w L {H with sp:=iI H.sp (Xr b) λ_=>val} held s0' P' gb km fm x->(∀c,P' c->P c\/U.size<=c)->R w):Yx.c (aW gb) b.1 b.2.1 b.2.2.1 b.2.2.2.1 b.2.2.2.2 val U R:=by
 obtain⟨⟨s1,s2⟩,⟨M,K⟩,⟨V,W,Q⟩,⟨t,X⟩,hm⟩:=bi;have S:=ZE (n:=b.2.1) O;have Z:(ZM b:Int)*8=Zk b.2.1:=by unfold ZM;omega
 refine Yx.o ?_;unfold Yx.v;refine nw (cs:=fB b) λv Y e B=>?_;refine Qj (a:=bO) (λ(z:Int) u=>∃(i:Nat) (s0':Sp) (P':Rg),z=8*(i:Int)/\i<=ZM b/\Ext P v u/\bY u U.size (fB b)/\GP σ0 u L {H with sp:=iI H.sp ((List.range i).map λ(j:Nat)=>b.1+8*(j:Int)) λ_=>val} held s0' P' gb km fm x/\∀c,P' c->P c\/v.size<=c) (λz _=>(Zk b.2.1-z).toNat)
  ⟨0,s0,P,O,O,Ext.refl _ _,B,p.fr e,λc m=>.inl m⟩ ?_
 rintro(z:Int) u ⟨i,s0',P',rfl,hi,eu,hbu,pu,hP⟩;refine hbu.rI rfl (hbu.rI rfl (hbu.rI rfl (hbu.rI rfl (hbu.rI rfl (HD b O O λF e1=>?_)))));have g:=e1.bV hbu id;have r:=pu.fr e1;refine cN (λA=>?_) λJ=>?_
 ·refine bL (r.b.rP rfl (g.fD rfl (ar O O (r.write gc _ val O λN d P'' e2 D y=>?_))));have C:=e1.1;have E:=eu.1;refine ar O O ⟨⟨i+1,d,P'',O,O,Ext.dW (eu.gp e1) e2 hP,e2.bV g λG=>?_,?_,λc m=>?_⟩,O⟩
  ·rcases hP _ G with h|h
   ·have:=(p.pP _ h).2;omega
   ·omega
  ·rw[oU,zj,List.map_singleton,Dd];exact D
  ·rcases y c m with h|h
   ·exact hP c h
   ·exact .inr O
 ·have s:i=ZM b:=by omega
  subst s;refine hR F _ _ ((aF.to e).trans (eu.gp e1)) r λc m=>?_;have:=e.1;exact(hP c m).imp id λh=>by omega
def jL (sp:Sp)(z:Int):Bool:=eO sp z != 0||QZ sp z != jy z
def QV (sp:Sp)(b:B5):List Int:=(Zl b).filter (jL sp)
set_option maxRecDepth 16000 in
theorem JC (p:GP σ0 U L H held s0 P gb km fm x)(bi:gL b){R:Sl->Hp->Prop}
 (hR:∀s w Q,aF U w->bT s 1 (Wu (QV H.sp b)) w Q->(∀c,Q c->U.size<=c/\c<w.size)->R s w):XK.c (aW gb) b.1 b.2.1 b.2.2.1 b.2.2.2.1 b.2.2.2.2 U R:=by
 refine XK.o ?_;unfold XK.v;refine nw (cs:=[.pointer (some ⟨gb,0,none⟩)]) λv1 hz1 e1 b1=>nw (cs:=fB b) λM hz2 e2 b2=>nw (cs:=[.slice none 0 0]) λv3 hz3 e3 b3=>?_;have y:=e3.bV b2 id;have Z:=(e2.trans e3).bV b1 id;refine y.rI rfl (y.rI rfl (y.rI rfl (y.rI rfl (y.rI rfl (JU b λW hz4 e4 b4=>?_)))));have S:=((e1.trans e2).trans e3).trans e4;have hzs:(Zl b).length<=100000:=by
  obtain⟨⟨s1,s2⟩,⟨b1,b2⟩,⟨z1,z2,z3⟩,⟨t,t2⟩,hm⟩:=bi;have hw:=ZE (n:=b.2.1) O;rw[GN];unfold VT G9;omega
 refine⟨rfl,by kernel_rfl,Zl b,_,λk s=>aF U s/\bY s U.size [.pointer (some ⟨gb,0,none⟩)]/\bY s v3.size (fB b)/\∃(sl:Sl) (Q:Rg),bY s M.size [.slice sl.a sl.len sl.cap]/\bT sl 1 (Wu (((Zl b).take k).filter (jL H.sp))) s Q/\∀c,Q c->W.size+2<=c/\c<s.size,Ex bi,?_,λk s h=>h.2.2.1,?_,?_,?_⟩
 ·rintro k s s' ⟨B,E,K,sl,Q,C,D,A⟩ e;have hz:=e.1;refine⟨Ext.dW B e λc d=>.inr O,e.bV E O,e.bV K O,sl,Q,e.bV C O,aI.bS D e λc _ Y d=>?_,λc d=>?_⟩
  ·have:=A c Y;omega
  ·have:=A c d;omega
 ·exact⟨S,(e4).bV Z id,b4,⟨none,0,0⟩,λ_=>False,e4.bV b3 id,⟨rfl,.inl ⟨rfl,rfl⟩⟩,λc d=>d.elim⟩
 ·rintro k z hk s ⟨B,E,K,sl,Q,C,D,A⟩ hsz;have zi:=Gg bi (zG hk);have N:=bi.base;have hm:=bi.m;have hkl:=(cX.1 hk).1;have ps:=p.fr B;have G:(Zl b).take (k+1)=(Zl b).take k++[z]:=by rw[kx,hk];rfl
  refine E.qk rfl (bL (ps.b.rP rfl (Gb ps.h z O λv5 g=>?_)));have hz5:=g.1;refine KP (λr u=>u=v5/\r=jL H.sp z) (λr u ⟨hu,hr⟩=>?_) λJ hJ=>?_
  ·subst hu;have F:=aI.bP D g;have i:∀c,Q c->c≠W.size/\c≠W.size+1/\c≠U.size/\c≠v3.size/\c≠M.size:=λc d=>by have:=A c d;omega
   refine cR (λN=>?_) λN=>?_
   ·refine(g.bV C id).vH rfl (wo F ?_ z λs' v8 e8 h8=>?_)
    ·have B:=oF (jL H.sp) ((Zl b).take k);rw[zY]at B;omega
    have hz8:=e8.1;have X:=e8.bV (g.bV C id) λd=>(i _ d).2.2.2.2 rfl;refine X.s0 aA λv9 o9 h9=>?_;have e9:=o9.ext;have hz9:=o9.1;have j:Ext (λc=>Q c\/c=M.size) u v9:=(e8.sub λc d=>.inl d).trans (e9.sub λc d=>.inr d);refine⟨⟨Ext.dW (B.trans g) j λc d=>?_,j.bV (g.bV E id) ?_,j.bV (g.bV K id) ?_,s',λc=>Q c\/u.size<=c/\c<v8.size,h9,?_,λc d=>?_⟩,?_,?_⟩
    ·rcases d with d|d
     ·have:=A c d;exact .inr O
     ·exact .inr O
    ·rintro(d|d)
     ·exact(i _ d).2.2.1 rfl
     ·omega
    ·rintro(d|d)
     ·exact(i _ d).2.2.2.1 rfl
     ·omega
    ·have:((Zl b).take (k+1)).filter (jL H.sp)=((Zl b).take k).filter (jL H.sp)++[z]:=by
      rw[G,wJ,uZ (by rw[←hr];exact N)];rfl
     rw[this];refine aI.bS h8 e9 λc _ d (hx:c=M.size)=>?_;rcases d with d|d
     ·exact(i _ d).2.2.2.2 hx
     ·omega
    ·rcases d with d|d
     ·have:=A c d;omega
     ·omega
    ·rw[j.2 _ O (by rintro(d|d);exact(i _ d).1 rfl;omega)];exact g.2 _ O id
    ·rw[j.2 _ O (by rintro(d|d);exact(i _ d).2.1 rfl;omega)];exact g.2 _ O id
   ·refine⟨⟨B.trans g,g.bV E id,g.bV K id,sl,Q,g.bV C id,?_,λc d=>?_⟩,g.2 _ O id,g.2 _ O id⟩
    ·have:((Zl b).take (k+1)).filter (jL H.sp)=((Zl b).take k).filter (jL H.sp):=by
      rw[G,wJ,ve (by rw[←hr,N];decide),List.filter_nil,kC]
     rw[this];exact F
    ·have:=A c d;omega
  ·refine cR (λh=>hJ _ _ ⟨rfl,by unfold jL;rw[h];rfl⟩) λh=>Je z O O (hJ _ _ ⟨rfl,by unfold jL;rw[h];rfl⟩)
 ·rintro s ⟨B,E,K,sl,Q,C,D,A⟩ hD;rw[lY]at D;refine C.vH rfl (JY hD λw V=>?_);have hz:=V.1;refine hR sl w Q (Ext.dW B V λc d=>.inr O) (aI.bS D V λc _ Y d=>?_) λc d=>?_
  ·have:=A c Y;omega
  ·have:=A c d;omega
end Go.Ar
namespace Go.Ar
open Go Go.Vc Go.Proofs
open Go.Vc (bU dA cO)
variable {U w w':Hp}{F P Q X:Rg}{L:dE}{H H':Hw}{held:List Pc}{s0:Sp}{t n:Nat}{g:Th}{σ0:Hp}{addrs:Sl}{ad:List Int}{l:Sl}{ds:List fC}
theorem fY.push (p:fY σ0 U L H held s0 P Q addrs ad){s':Sl}{x:Int}(e:Ext Q U w)(hr:bT s' 1 (Wu (ad++[x])) w (λb=>Q b\/U.size<=b/\b<w.size))(hl:(ad++[x]).length<=60):fY σ0 w L H held s0 P (λb=>Q b\/U.size<=b/\b<w.size) s' (ad++[x]):=by
 have j:=e.1;have i:=p.e.1;refine⟨Ext.dW p.e e λb a=>.inr (p.pQ b a).1,p.h.bS e (λb a d g=>(p.pQ b g).2.2 d) (λb a=>p.g0.1 b (p.pQ b a).1) (λa=>p.g0.2 (p.pQ _ a).1),p.hi,p.cf,p.pg,λb a=>⟨(p.pP b a).1,by have:=(p.pP b a).2;omega⟩,λb a=>?_,hr,hl,p.g0⟩;rcases a with a|a
 ·exact⟨(p.pQ b a).1,by have:=(p.pQ b a).2.1;omega,(p.pQ b a).2.2⟩
 ·exact⟨O,a.2,λd=>by have:=(p.pP b d).2;omega⟩
theorem Fo {tb:List cA}{size align:Int}{k:Nat}(h:hO tb size align=some k):∃c,tb[k]?=some c/\size<=(c.size:Int)/\(c.size:Int)%align=0:=by
 unfold hO at h;obtain⟨b,a,_⟩:=nV.1 h;simp only[zF,zV,zU]at a;exact⟨tb[k],cW b,a.1,a.2⟩
theorem NJ {tb:List cA}{size align:Int}(h:size<=16384/\Hl size align=true):size<=(oZ tb size align).1/\(oZ tb size align).2=0:=by
 unfold oZ;rw[zC h];refine⟨?_,rfl⟩;cases hc:hO tb size align with
 | some k=>
  obtain⟨c,b,a,_⟩:=Fo hc;simp only;rw[zQ,b];exact a
 | none=>simp only;unfold yW;omega
theorem BW {live:List (Int×Bk)}{x:Int}(b:Bk):bU (dA live x b) x=some b:=by rw[UW,zC rfl]
end Go.Ar
namespace Go.Ar
open Go Go.Vc Go.Proofs
open Go.Vc (bU dA cO)
open Go.Bu (fo VK Hz)
variable {size align:Int}{U σ0 v w w':Hp}{F P Q X T:Rg}{L:dE}{H H' H1:Hw}{held:List Pc}{s0 sp:Sp}{t n:Nat}{g:Th}{gb km fm m:Nat}{x y:Gu}{b:B5}
theorem _root_.Go.Vc.bY.s2 {U:Hp}{b o i j:Nat}{cs:List Value}(hb:bY U b cs){v:Value}(ho:o+i+j<cs.length){K:aP}(hK:∀h',Kb U h' b->bY h' b (cs.set (o+i+j) v)->K h'):dF (Addr.add (Addr.add ⟨b,o,none⟩ i) j) v U K:=by
 rw[add_lit];exact hb.s1 ho hK
def Mg (P:Rg)(gb km fm:Nat):Rg:=λb=>P b\/b=gb\/b=km\/b=fm
def mr (size align:Int):Bool:=decide (1<=size/\size<=1024/\1<=align/\align<=256)&&fo align
def zA (align:Int):Int:=if 16>align then 16 else align
theorem xz {align:Int}(h:align<=256):16<=zA align/\zA align<=256:=by unfold zA;split<;>omega
structure vv (H:Hw) (x:Gu) (size align:Int) (b:B5) (H1:Hw):Prop where
 me:rj H (zA align+Zk size+16) (zA align) H1 b.2.2.1 0
 a:b.1=b.2.2.1+zA align
 s:b.2.1=size
 u:Kx H1 b.2.2.1=some b.2.2.2.1
 n:b.2.2.2.2=x.no+1
 ok:mr size align=true
 bi:gL b
def jU (sp:Sp)(b:B5):Sp:=iI (iI sp (Zl b) jy) (Xr b) λ_=>0
def Gu.eH (x:Gu)(b:B5):Gu:=⟨dA x.kn b.1 b,x.fr,x.no+1⟩
theorem D4 {a:Int}(h1:1<=a)(h2:a<=256)(hp:fo a=true):a%8=0\/a<8:=by
 by_cases h:a<8
 ·exact .inr h
 ·left;obtain⟨a,rfl⟩:=zc (show 0<=a by omega);rw[VK]at hp;have key:∀a:Nat,a<=256->8<=a->(a &&& (a-1)=0)->a%8=0:=by decide +kernel
  have:=key a O O (by have:=Hz (a:=a) O O;rw[hp]at this;simpa using this);omega
theorem Oz (hi:HI H1 held s0)(hok:mr size align=true){base:Int}(me:rj H (zA align+Zk size+16) (zA align) H1 base 0):∃u,Kx H1 base=some u/\gL (base+zA align,size,base,u,x.no+1):=by
 unfold mr at hok;rw[zF,zV]at hok;obtain⟨⟨i,k2,k3,k4⟩,kp⟩:=hok;have s:=xz k4;have p:=ZE (n:=size) O;rcases me with⟨h,_⟩|⟨_,hm,hok,cl,hl,hcl⟩
 ·exact absurd rfl h
 have g:Kx H1 base=some (oZ H.tb (zA align+Zk size+16) (zA align)).1:=by unfold Kx;rw[hl,BW];rfl
 have m:=(NJ (tb:=H.tb) ⟨hok.2.1,hok.2.2⟩).1;obtain⟨r,b,d⟩:=od.1 g;have a:=hi.pF (Qi b);simp only at a;rw[d]at a;have j:zA align%8=0:=by
  unfold zA;split
  ·decide
  ·rcases D4 k3 k4 kp with h|h
   ·exact h
   ·omega
 exact⟨_,g,⟨⟨i,k2⟩,⟨a.2.1,a.2.2.1⟩,⟨by simp only;omega,by simp only;omega,by simp only;omega⟩,⟨by simp only;omega,a.2.2.2.1⟩,by simp only;omega⟩⟩
set_option maxRecDepth 16000 in
theorem Sj (p:GP σ0 U L H held s0 P gb km fm x)(gc:Gc σ0)(x0:0<=x.no/\x.no<=100000)(thread size align:Int){R:Int->Int->Hp->Prop}
 (h0:∀w,mr size align=false->aF U w->R 0 1 w)
 (h1:∀e w ts H' held' s0' P',mr size align=true->e≠0->KO H thread 0 (zA align+Zk size+16) (zA align) 0 H' 0 e->fR H H'->H'.live=H.live->Ext P U w->GP σ0 w {L with ts:=ts} H' held' s0' P' gb km fm x->(∀c,P' c->P c\/U.size<=c)->R 0 e w)
 (h2:∀b w ts H1 held' s0' P',vv H x size align b H1->KO H thread 0 (zA align+Zk size+16) (zA align) 0 H1 b.2.2.1 0->fR H H1->Ext (Mg P gb km fm) U w->GP σ0 w {L with ts:=ts} {H1 with sp:=jU H1.sp b} held' s0' P' gb km fm (x.eH b)->(∀c,P' c->P c\/U.size<=c)->R b.1 0 w) :
 Yc.c (aW gb) thread size align U R:=by
 refine Yc.o ?_;unfold Yc.v;rw[show(if(16:Int)>align then(16:Int)else align)=zA align from rfl]
 refine nw (cs:=[.pointer (some ⟨gb,0,none⟩)]) λv hz e hn4=>hn4.qk rfl (Ul (p.fr e) (cD rfl ?_));refine KP (λr u=>u=v/\r = !decide (1<=size/\size<=1024)) (λr u ⟨hu,hr⟩=>?_) λJ hJ=>cN (λh=>hJ _ _ ⟨rfl,by rw[zL O];rfl⟩) λh=>hJ _ _ ⟨rfl,?_⟩
 ·rw[hu];refine KP (λr u=>u=v/\r = !decide (1<=size/\size<=1024/\1<=align)) (λr1 u1 ⟨hu1,hr1⟩=>?_) λJ1 hJ1=>?_
  ·rw[hu1];refine KP (λr u=>u=v/\r = !decide (1<=size/\size<=1024/\1<=align/\align<=256)) (λr2 u2 ⟨hu2,hr2⟩=>?_) λJ2 hJ2=>?_
   ·rw[hu2];refine KP (λr u=>u=v/\r = !mr size align) (λr3 u3 ⟨hu3,hr3⟩=>?_) λJ3 hJ3=>?_
    ·rw[hu3];clear hr hr1 hr2 hu hu1 hu2 hu3;by_cases hgk:mr size align=true
     ·refine cD (by rw[hr3,hgk];rfl) ?_;have hk:=hgk;unfold mr at hk;rw[zF,zV]at hk;obtain⟨⟨k1,k2,k3,k4⟩,kp⟩:=hk;have hzz:=xz k4;have hww:=ZE (n:=size) O;refine nw (cs:=[.int .i64 0,.int .i64 0,.int .i64 0,.int .i64 0,.int .i64 0]) λv6 hz6 e6 b6=>?_;refine b6.s1 aA λv7 o7 b7=>b7.s1 aA λv8 o8 b8=>b8.s1 aA λv9 o9 b9=>b9.s1 aA λv10 gA b10=>b10.s1 aA λv11 o11 b11=>?_;have bb:bY v11 v.size (fB (0,size,0,0,0)):=b11;have eo:Ext (· = v.size) v6 v11:=(((o7.ext.trans o8.ext).trans o9.ext).trans gA.ext).trans o11.ext;have e11:aF v v11:=Ext.fresh e6 eo λi (hi:i=v.size)=>by omega
      have p11:=(p.fr e).fr e11;have X:=e11.bV hn4 id;have zv:U.size<v.size:=by omega
      have zb:=bb.lt;refine⟨λm=>bY m U.size [.pointer (some ⟨gb,0,none⟩)]/\bY m gb (sR L.p km fm x)/\bY m v.size (fB (0,size,0,0,0)),⟨X,p11.b,bb⟩,?_⟩;refine rX (c:=.p) (y:=some ⟨gb,0,none⟩) (λm G=>G.1) rfl (bL (gI (c:=.p) (y:=some ⟨L.p,0,none⟩) (λm G=>G.2.1) rfl ?_));refine gI (c:=bO) (y:=0) (λm G=>G.2.2) rfl (gI (c:=bO) (y:=size) (λm G=>G.2.2) rfl (gI (c:=bO) (y:=0) (λm G=>G.2.2) rfl (gI (c:=bO) (y:=0) (λm G=>G.2.2) rfl (gI (c:=bO) (y:=0) (λm G=>G.2.2) rfl ?_))));refine HD (0,size,0,0,0) aC aC λv12 A=>⟨⟨A.bV X id,A.bV p11.b id,A.bV bb id⟩,?_⟩;refine ar aC aC (ar aC aC ?_);have p12:=p11.fr A;have e012:=(e.trans e11).trans A;have z1112:=A.1;obtain⟨H',a,er,hw,o,me⟩:=Mn p.hi thread (zA align+Zk size+16) (zA align);obtain⟨held',s0',hi'⟩:=o.hi;refine WgM E9 p12.h p12.cf.2.2 hw λv13 ts K h13=>?_;have B:=p12.step K h13 hi' o.kp;have z12:=e012.1;have z13:=K.1;have nP:∀c,U.size<=c->¬P c:=λc h1 h2=>by have:=(p.pP c h2).2;omega
      have Q:=K.bV (A.bV X id) (nP _ (zD _));have bb13:=K.bV (A.bV bb id) (nP _ O);refine⟨⟨Q,K.bV p12.b p.rQ.2,bb13⟩,?_⟩;generalize hP1:Cut (Grow P v12) v13=P1 at B;have E:∀c,P1 c->P c\/U.size<=c:=λc d=>by
       rw[←hP1]at d;exact d.1.imp id λh=>by omega
      have V:∀c,P1 c->c<v13.size:=λc d=>by rw[←hP1]at d;exact d.2
      have F:∀c,c<v12.size->¬P c->¬P1 c:=λc h1 h2 C=>by
       rw[←hP1]at C;rcases C.1 with h4|h4
       ·exact h2 h4
       ·omega
      have E13:Ext P U v13:=(aF.to e012).trans K;refine cR (λhne=>?_) λheq=>?_
      ·have hne':er≠0:=by simpa using hne
       rcases me with⟨_,ha,hl⟩|⟨h,_⟩
       ·subst ha;exact h1 er v13 ts H' held' s0' P1 hgk hne' hw o hl E13 B E
       ·exact absurd h hne'
      ·have he0:er=0:=by simpa using heq
       subst he0;obtain⟨u,hu,Y⟩:=Oz (x:=x) (size:=size) (align:=align) hi' hgk me;obtain⟨b,g⟩:∃b:B5,b=(a+zA align,size,a,u,x.no+1):=⟨_,rfl⟩;rw[←g]at Y;have hbs:=Y.base;have hbm:=Y.m;have hbz:=Y.z;have hbt:=Y.t;have hb1:b.1=a+zA align:=by rw[g]
       have hb2:b.2.1=size:=by rw[g]
       rw[hb2]at hbt;have N:b.2.2.1=a:=by rw[g]
       have hb4:b.2.2.2.1=u:=by rw[g]
       rw[N]at hbs;have gr:vv H x size align b H':=⟨by rw[N];exact me,by rw[hb1,N],by rw[g],by rw[N,hb4];exact hu,by rw[g],hgk,Y⟩;have hgb13:=B.b.lt;have hvg:v.size≠gb:=λh=>by have:=p.b.lt;omega
       have hsg:U.size≠gb:=λh=>by have:=p.b.lt;omega
       have hvk:v.size≠km:=λh=>by have:=p.m.lt;omega
       have hsk:U.size≠km:=λh=>by have:=p.m.lt;omega
       have hvf:v.size≠fm:=λh=>by have:=p.f.lt;omega
       refine Q.qk rfl (bL (B.b.rI rfl (ar O O (bL (B.b.s1 (by simp[sR]) λM D b14=>?_)))));have p14:GP σ0 M {L with ts:=ts} H' held' s0' P1 gb km fm {x with no:=x.no+1}:=B.fA (D.ext.sub λc d=>.inl d) b14 (D.ext.fV B.m λ(h:km=gb)=>p.n1 h.symm) (D.ext.fV B.f λ(h:fm=gb)=>p.n2 h.symm);have hn14:=D.ext.bV Q hsg;have bb14:=D.ext.bV bb13 hvg;refine hn14.qk rfl (bL (p14.b.rI rfl (ar O O ?_)));refine bb14.s1 (by simp[fB]) λv15 o15 b15=>b15.s2 (by simp[fB]) λv16 o16 b16=>b16.s2 (by simp[fB]) λv17 o17 b17=>?_;have e17:Ext (· = v.size) M v17:=(o15.ext.trans o16.ext).trans o17.ext;have hout:∀c,c<M.size->c=v.size->¬P1 c/\c≠gb/\c≠km/\c≠fm/\σ0.size<=c:=λc _ d=>by
        subst d;have:=p.e.1;exact⟨F _ O (nP _ O),hvg,hvk,hvf,O⟩
       have p17:=p14.out e17 hout;have hn17:=e17.bV hn14 (show ¬U.size=v.size by omega);refine hn17.qk rfl (bL (p17.b.rP rfl (E0 p17.h a λv18 S=>?_)));rw[hu];refine(S.bV b17 id).s2 (by simp[fB]) λv19 o19 b19=>?_;have j:bY v19 v.size (fB b):=by rw[g];exact b19
       have p18:=p17.fr S;have z17:=o17.1;have z16:=o16.1;have z15:=o15.1;have z14:=D.1;have z18:=S.1;have z19:=o19.1;have p19:=p18.out o19.ext λc hc1 (d:c=v.size)=>by
        subst d;have:=p.e.1;exact⟨F _ O (nP _ O),hvg,hvk,hvf,O⟩
       have hn19:=o19.ext.bV (S.bV hn17 id) (show ¬U.size=v.size by omega);have E19:Ext (Mg P gb km fm) U v19:=by
        refine Ext.dW (((((E13.sub λc d=>.inl d).trans (D.ext.sub λc d=>.inr (.inl d))))):Ext (Mg P gb km fm) U M) (((e17.trans (aF.to S)).trans o19.ext):Ext (· = v.size) M v19) λc (d:c=v.size)=>.inr O
       refine j.rI rfl (j.rI rfl (j.rI rfl (j.rI rfl (j.rI rfl (JU b λv20 hz20 W b20=>?_)))));have p20:=p19.fr W;have hn20:=W.bV hn19 id;have bb20:=W.bV j id;have z20:=W.1;have E20:Ext (Mg P gb km fm) U v20:=E19.gp W;refine⟨rfl,by kernel_rfl,Zl b,_,λk s=>Ext (Mg P gb km fm) U s/\v20.size<=s.size/\bY s U.size [.pointer (some ⟨gb,0,none⟩)]/\bY s v.size (fB b)/\bY s v19.size (fB b)/\∃(s0':Sp) (P':Rg),GP σ0 s {L with ts:=ts} {H' with sp:=iI H'.sp ((Zl b).take k) jy} held' s0' P' gb km fm {x with no:=x.no+1}/\∀c,P' c->P1 c\/v20.size+2<=c,Ex Y,?_,λk s h=>h.2.2.2.2.1,?_,?_,?_⟩
       ·rintro k s s' ⟨i1,i2,i3,i4,i5,s1',P',i6,Z⟩ es;have zs:=es.1;have nn:∀c,c<v20.size->¬(c=v20.size\/c=v20.size+1):=λc h=>by omega
        refine⟨Ext.dW i1 es λc d=>.inr O,O,es.bV i3 (nn _ O),es.bV i4 (nn _ O),es.bV i5 (nn _ O),s1',P',i6.out es λc _ d=>?_,Z⟩;have:=p.e.1;have g1:=p.b.lt;have g2:=p.m.lt;have g3:=p.f.lt;refine⟨λhx=>?_,O,O,O,O⟩;rcases Z c hx with h|h
        ·have:=V c h;omega
        ·omega
       ·exact⟨E20,zD _,hn20,bb20,b20,s0',P1,p20,λc d=>.inl d⟩
       ·rintro k (z:Int) hk s ⟨i1,i2,i3,i4,i5,s1',P',i6,Z⟩ hsz;have zi:=Gg Y (zG hk);have hzk:0<=z/\z<=1000000:=by
         have z1:=zi.1;have z2:=zi.2.2.1;have h0:=Y.base.1;omega
        have htk:(Zl b).take (k+1)=(Zl b).take k++[z]:=by rw[kx,hk];rfl
        have n7:∀c,c<v20.size+2->(¬P1 c)->¬P' c:=λc h1 h2 C=>(Z c C).elim h2 λh=>by omega
        have q1:¬P1 U.size:=F _ O (nP _ (zD _));have q2:¬P1 v.size:=F _ O (nP _ O);have q3:∀c,v13.size<=c->¬P1 c:=λc h1 h2=>by have:=V c h2;omega
        refine⟨λm=>bY m U.size [.pointer (some ⟨gb,0,none⟩)]/\bY m gb (sR L.p km fm {x with no:=x.no+1}),⟨i3,i6.b⟩,rX (c:=.p) (y:=some ⟨gb,0,none⟩) (λm h=>h.1) rfl (bL (gI (c:=.p) (y:=some ⟨L.p,0,none⟩) (λm h=>h.2) rfl ?_))⟩;refine Je z hzk.1 hzk.2 ⟨⟨i3,i6.b⟩,?_⟩;refine i6.write gc z (jy z) O λs2 s2' P2 e2 p2 hP2=>?_;have zs2:=e2.1;have i3':=e2.bV i3 (n7 _ O q1);refine⟨⟨i3',p2.b⟩,⟨Ext.dW i1 e2 λc d=>?_,O,i3',e2.bV i4 (n7 _ O q2),e2.bV i5 (n7 _ O (q3 _ O)),s2',P2,?_,λc d=>?_⟩,e2.2 _ O (n7 _ O (q3 _ O)),e2.2 _ O (n7 _ O (q3 _ O))⟩
        ·rcases Z c d with h|h
         ·exact(E c h).imp .inl id
         ·exact .inr O
        ·rw[htk,Dd];exact p2
        ·rcases hP2 c d with h|h
         ·exact Z c h
         ·exact .inr O
       ·rintro s ⟨i1,i2,i3,i4,i5,s1',P',i6,Z⟩ hD;rw[lY]at i6;have n7:∀c,c<v20.size+2->(¬P1 c)->¬P' c:=λc h1 h2 C=>(Z c C).elim h2 λh=>by omega
        have q1:¬P1 U.size:=F _ O (nP _ (zD _));have q2:¬P1 v.size:=F _ O (nP _ O);have q3:∀c,v13.size<=c->¬P1 c:=λc h1 h2=>by have:=V c h2;omega
        refine i3.qk rfl (i4.rI rfl (i4.rI rfl (i4.rI rfl (i4.rI rfl (i4.rI rfl (Ic i6 gc Y 0 λs2 s2' P2 e2 p2 hP2=>?_))))));have zs2:=e2.1;have hlt:=(jT.1 hD).1;have i3':=e2.bV i3 (n7 _ O q1);have i4':=e2.bV i4 (n7 _ O q2);have hS:∀m,(bY m U.size [.pointer (some ⟨gb,0,none⟩)]/\bY m gb (sR L.p km fm {x with no:=x.no+1})/\bY m v.size (fB b))->bY m v.size (fB b):=λm h=>h.2.2;refine⟨λm=>bY m U.size [.pointer (some ⟨gb,0,none⟩)]/\bY m gb (sR L.p km fm {x with no:=x.no+1})/\bY m v.size (fB b),⟨i3',p2.b,i4'⟩,rX (c:=.p) (y:=some ⟨gb,0,none⟩) (λm h=>h.1) rfl (bL (gI (c:=.m) (y:=some km) (λm h=>h.2.1) rfl ?_))⟩;refine pw (c:=bO) (y:=b.1) hS rfl (gI (c:=bO) (y:=b.1) hS rfl (gI (c:=bO) (y:=b.2.1) hS rfl (gI (c:=bO) (y:=b.2.2.1) hS rfl (gI (c:=bO) (y:=b.2.2.2.1) hS rfl (gI (c:=bO) (y:=b.2.2.2.2) hS rfl ⟨km,x.kn,rfl,p2.m,λs3 o3 m3=>?_⟩)))));have p3:GP σ0 s3 {L with ts:=ts} {H' with sp:=jU H'.sp b} held' s2' P2 gb km fm (x.eH b):=p2.fA (y:=x.eH b) (o3.ext.sub λc d=>.inr (.inl d)) (o3.ext.bV p2.b p.n1) m3 (o3.ext.fV p2.f λ(h:fm=km)=>p.n3 h.symm);have zs3:=o3.1;have hkm:=p.m.lt;have hfm:=p.f.lt;have hgb:=p.b.lt;have hD3:s3[v20.size]?=some (.deferred (some [])):=(o3.2 _ O).trans ((e2.2 _ hlt (n7 _ O (q3 _ O))).trans hD);refine(o3.ext.bV i4' hvk).fD rfl (JY hD3 λs4 e4=>?_);have hP2':∀c,P2 c->P c\/U.size<=c:=λc d=>by
         rcases hP2 c d with h|h
         ·rcases Z c h with h|h
          ·exact E c h
          ·exact .inr O
         ·exact .inr O
        refine h2 b s4 ts H' held' s2' P2 gr (by rw[N];exact hw) o ?_ (p3.out e4 λc _ (d:c=v20.size)=>?_) hP2'
        ·have E1:Ext (Mg P gb km fm) U s2:=Ext.dW i1 e2 λc d=>by
          rcases Z c d with h|h
          ·exact(E c h).imp .inl id
          ·exact .inr O
         have E2:Ext (Mg P gb km fm) U s3:=E1.trans (o3.ext.sub λc d=>.inr (.inr (.inl d)));exact Ext.dW E2 e4 λc (d:c=v20.size)=>.inr O
        ·subst d;have:=p.e.1;refine⟨λhx=>?_,O,O,O,O⟩;rcases hP2 _ hx with h|h
         ·exact n7 _ O (q3 _ O) h
         ·omega
     ·exact cF (by rw[hr3];simp[hgk]) (h0 v (by simpa using hgk) e)
    ·by_cases g:1<=size/\size<=1024/\1<=align/\align<=256
     ·refine cD (by rw[hr2,zI g];rfl) (ar O O (hJ3 _ _ ⟨rfl,?_⟩));rw[TC g.2.2.1 g.2.2.2];unfold mr;rw[zI g];rfl
     ·refine cF (by rw[hr2,zL g];rfl) (hJ3 _ _ ⟨rfl,?_⟩);unfold mr;rw[zL g];rfl
   ·by_cases g:1<=size/\size<=1024/\1<=align
    ·refine cD (by rw[hr1,zI g];rfl) (hJ2 _ _ ⟨rfl,?_⟩);by_cases C:align>256
     ·rw[zI C,zL O];rfl
     ·rw[zL C,zI O];rfl
    ·exact cF (by rw[hr1,zL g];rfl) (hJ2 _ _ ⟨rfl,by rw[zL O];rfl⟩)
  ·by_cases g:1<=size/\size<=1024
   ·refine cD (by rw[hr,zI g];rfl) (hJ1 _ _ ⟨rfl,?_⟩);by_cases C:align<1
    ·rw[zI C,zL O];rfl
    ·rw[zL C,zI O];rfl
   ·exact cF (by rw[hr,zL g];rfl) (hJ1 _ _ ⟨rfl,by rw[zL O];rfl⟩)
 ·by_cases C:size>1024
  ·rw[zI C,zL O];rfl
  ·rw[zL C,zI O];rfl
end Go.Ar
namespace Go.Ar
open Go Go.Vc Go.Proofs Go.RowKit Go.Sort Go.Shelf Go.Lib
variable {U:Hp}{F Q:Rg}{s:Sl}{xs:List Int}
end Go.Ar
namespace Go.Ar
open Go Go.Vc Go.Proofs
open Go.Vc (bU dA cO)
variable {size align:Int}{U σ0 v w w':Hp}{F P Q X T:Rg}{L:dE}{H H' H1:Hw}{held:List Pc}{s0 sp:Sp}{t n:Nat}{g:Th}{gb km fm m:Nat}{x y:Gu}{b:B5}
def Ho:Int:=-1234567
def lT (H:Hw)(x:Gu)(thread addr:Int)(whole:Bool):Int:=
 if ZX H thread≠0 then ZX H thread else match bU x.kn addr with
 | none=>if(bU x.fr addr).getD false then 9 else 8
 | some b=>if UJ H b then 5 else if whole&&decide (0<(QV H.sp b).length)then 10 else 0
def Gu.gone (x:Gu)(addr:Int):Gu:=⟨cO x.kn addr,dA x.fr addr true,x.no⟩
def dP (H:Hw)(b:B5):Hw:={H with sp:=iI H.sp (Xr b) λ_=>Ho}
set_option maxRecDepth 16000 in
theorem Lg (p:GP σ0 U L H held s0 P gb km fm x)(gc:Gc σ0)(xi:∀e∈x.kn,e.1=e.2.1/\gL e.2)(thread addr:Int)(whole:Bool){R:aN}
 (h0:∀w,lT H x thread addr whole≠0->aF U w->R (lT H x thread addr whole) w)
 (h1:∀b w ts H1 held' s0' P' e,bU x.kn addr=some b->lT H x thread addr whole=0->KO (dP H b) thread 1 0 0 b.2.2.1 H1 0 e->fR (dP H b) H1->nR (dP H b) thread b.2.2.1 H1 e->Ext (Mg P gb km fm) U w->GP σ0 w {L with ts:=ts} H1 held' s0' P' gb km fm (x.gone addr)->(∀c,P' c->P c\/U.size<=c)->R 0 w) :
 XV.c (aW gb) thread addr whole U R:=by
 refine XV.o ?_;unfold XV.v;refine Ul p (cD rfl (SI p thread λC e1=>?_));have p1:=p.fr e1;refine cR (λhne=>?_) λheq=>?_
 ·have hn:ZX H thread≠0:=by simpa using hne
  have he:lT H x thread addr whole=ZX H thread:=by unfold lT;rw[zC hn]
  have:=h0 C (by rw[he];exact hn) e1;rw[he]at this;exact this
 have hrd:ZX H thread=0:=by simpa using heq
 have a:lT H x thread addr whole=match bU x.kn addr with
  | none=>if(bU x.fr addr).getD false then 9 else 8
  | some b=>if UJ H b then 5 else if whole&&decide (0<(QV H.sp b).length)then 10 else 0:=by
  unfold lT;rw[zB (by rw[hrd];decide)]
 refine bL (p1.b.rM rfl ⟨x.kn,p1.m,?_⟩);refine nw (cs:=[.int .i64 0,.int .i64 0,.int .i64 0,.int .i64 0,.int .i64 0]) λv2 hz2 e2 b2=>b2.s1 aA λv3 o3 b3=>b3.s1 aA λv4 o4 b4=>b4.s1 aA λv5 o5 b5=>b5.s1 aA λv6 o6 b6=>b6.s1 aA λv7 o7 b7=>?_;have eo:Ext (· = C.size) v2 v7:=(((o3.ext.trans o4.ext).trans o5.ext).trans o6.ext).trans o7.ext;have e17:aF C v7:=Ext.fresh e2 eo λi (hi:i=C.size)=>by omega
 have D:=e1.trans e17;have Z:=p.fr D;have d:bY v7 C.size (fB ((bU x.kn addr).getD (0,0,0,0,0))):=b7;cases hk:bU x.kn addr with
 | none=>
  rw[hk]at a;simp only at a;refine KP (λr u=>u=v7/\r=(bU x.fr addr).getD false) (λr u ⟨hu,K⟩=>?_) λJ N=>cF rfl (bL (Z.b.rM rfl ⟨x.fr,Z.f,N _ _ ⟨rfl,rfl⟩⟩));rw[hu];refine cR (λh=>?_) λh=>cF rfl ?_
  ·rw[←K,h]at a;have:=h0 v7 (by rw[a];decide) D;rw[a]at this;exact this
  ·rw[←K,h]at a;have:=h0 v7 (by rw[a];decide) D;rw[a]at this;exact this
 | some b=>
  rw[hk]at a d;simp only at a;have d:bY v7 C.size (fB b):=d;have F:gL b:=(xi _ (Qi hk)).2;refine KP (λr u=>u=v7/\r=false) (λr u ⟨hu,K⟩=>?_) λJ N=>cD rfl (N _ _ ⟨rfl,rfl⟩);rw[hu];refine cD K (cD rfl (d.rI rfl (d.rI rfl (d.rI rfl (d.rI rfl (d.rI rfl (yz Z b λv9 e9=>?_)))))));have E:=D.trans e9;have p9:=p.fr E;have j:=e9.bV d id;refine cR (λhl=>?_) λhl=>?_
  ·rw[zC hl]at a;have:=h0 v9 (by rw[a];decide) E;rw[a]at this;exact this
  rw[zB (by rw[hl];decide)]at a;refine KP (λr u=>aF U u/\bY u C.size (fB b)/\r=(whole&&decide (0<(QV H.sp b).length))) (λr u ⟨G,B,K⟩=>?_) λJ N=>cR (λM=>?_) λM=>N _ _ ⟨E,j,by rw[M];rfl⟩
  ·refine cR (λh=>?_) λh=>?_
   ·rw[←K,zC h]at a;have:=h0 u (by rw[a];decide) G;rw[a]at this;exact this
   ·rw[←K,zB (by rw[h];decide)]at a;have pu:=p.fr G;have zu:=G.1;have z1:=e1.1;refine B.rI rfl (B.rI rfl (B.rI rfl (B.rI rfl (B.rI rfl (Ic pu gc F (-1234567) λu1 V P1 ef Y X=>?_)))));have nP:¬P C.size:=λhx=>by have:=(p.pP _ hx).2;omega
    have hb1:=ef.bV B nP;have zf:=ef.1;refine bL (Y.b.rM rfl ⟨x.kn,Y.m,λu2 o2 _ m2=>?_⟩);have o2:=o2 km rfl;have S:GP σ0 u2 L (dP H b) held V P1 gb km fm ⟨cO x.kn addr,x.fr,x.no⟩:=Y.fA (y:=⟨cO x.kn addr,x.fr,x.no⟩) (o2.ext.sub λc g=>.inr (.inl g)) (o2.ext.bV Y.b p.n1) m2 (o2.ext.fV Y.f λ(h:fm=km)=>p.n3 h.symm);refine bL (S.b.rM rfl ⟨fm,x.fr,rfl,S.f,λu3 A m3=>?_⟩);have W:GP σ0 u3 L (dP H b) held V P1 gb km fm (x.gone addr):=S.fA (y:=x.gone addr) (A.ext.sub λc g=>.inr (.inr g)) (A.ext.bV S.b p.n2) (A.ext.fV S.m p.n3) m3;have hkm:=p.m.lt;have hfm:=p.f.lt;have hb3:=A.ext.bV (o2.ext.bV hb1 (show ¬C.size=km by omega)) (show ¬C.size=fm by omega);obtain⟨H',er,M,o,fe⟩:=ς W.hi thread b.2.2.1 (by have:=F.base;have:=F.m;have:=F.t;have:=F.z;have:=F.s;have:=ZE (n:=b.2.1) O;unfold iL;omega);obtain⟨held',s0',hi'⟩:=o.hi;refine bL (W.b.rP rfl (hb3.fD rfl (Ro E9 W.h W.cf.2.2 M λu4 ts e4 h4=>?_)));have p5:=W.step e4 h4 hi' o.kp;have z2:=o2.1;have z3:=A.1;have z4:=e4.1;refine h1 b u4 ts H' held' s0' _ er hk a M o fe ?_ p5 λc g=>?_
    ·have E1:Ext (Mg P gb km fm) U u1:=(aF.to G).trans (ef.sub λc g=>.inl g);have E3:Ext (Mg P gb km fm) U u3:=(E1.trans (o2.ext.sub λc g=>.inr (.inr (.inl g)))).trans (A.ext.sub λc g=>.inr (.inr (.inr g)));exact Ext.dW E3 e4 λc g=>(X c g).imp .inl λh=>by omega
    ·rcases g.1 with g|g
     ·exact(X c g).imp id λh=>by omega
     ·exact .inr O
  ·refine j.rI rfl (j.rI rfl (j.rI rfl (j.rI rfl (j.rI rfl (JC p9 F λs u Q G hs hQ=>N _ _ ⟨E.trans G,G.bV j id,?_⟩)))));have:s.len=(QV H.sp b).length:=by have:=hs.1;simp[Wu]at this;omega
   rw[M,this,rU,kU,decide_eq_true_iff,decide_eq_true_iff];omega
def kV (H:Hw)(x:Gu)(addr:Int):Int:=match bU x.kn addr with
 | none=>8
 | some b=>if UJ H b then 5 else 0
def vV (H:Hw)(x:Gu)(addr:Int):List Int:=match bU x.kn addr with
 | none=>[]
 | some b=>if UJ H b then[]else QV H.sp b
set_option maxRecDepth 16000 in
theorem Fb (p:GP σ0 U L H held s0 P gb km fm x)(xi:∀e∈x.kn,e.1=e.2.1/\gL e.2)(addr:Int){R:Sl->Int->Hp->Prop}
 (hR:∀s w Q,aF U w->bT s 1 (Wu (vV H x addr)) w Q->(∀c,Q c->U.size<=c/\c<w.size)->R s (kV H x addr) w):X7.c (aW gb) addr U R:=by
 refine X7.o ?_;unfold X7.v;refine Ul p (cD rfl (bL (p.b.rM rfl ⟨x.kn,p.m,?_⟩)));refine nw (cs:=[.int .i64 0,.int .i64 0,.int .i64 0,.int .i64 0,.int .i64 0]) λJ B e2 M=>M.s1 aA λv3 o3 W=>W.s1 aA λY o4 b4=>b4.s1 aA λv5 o5 E=>E.s1 aA λZ o6 D=>D.s1 aA λv7 o7 K=>?_;have S:Ext (· = U.size) J v7:=(((o3.ext.trans o4.ext).trans o5.ext).trans o6.ext).trans o7.ext;have j:aF U v7:=Ext.fresh e2 S λi (hi:i=U.size)=>by omega
 have C:=p.fr j;have a:bY v7 U.size (fB ((bU x.kn addr).getD (0,0,0,0,0))):=K;have nil:∀w,bT ⟨none,0,0⟩ 1 (Wu []) w (λ_=>False):=λw=>⟨rfl,.inl ⟨rfl,rfl⟩⟩;unfold kV vV at hR;cases hk:bU x.kn addr with
 | none=>
  rw[hk]at hR;exact cF rfl (hR _ v7 _ j (nil _) λc h=>h.elim)
 | some b=>
  rw[hk]at a hR;simp only at hR;have a:bY v7 U.size (fB b):=a;have z:gL b:=(xi _ (Qi hk)).2;refine cD rfl (a.rI rfl (a.rI rfl (a.rI rfl (a.rI rfl (a.rI rfl (yz C b λG y=>?_))))));have g:=j.trans y;have V:=p.fr g;have d:=y.bV a id;refine cR (λr=>?_) λr=>?_
  ·rw[r]at hR;exact hR _ G _ g (nil _) λc h=>h.elim
  ·rw[r]at hR;refine d.rI rfl (d.rI rfl (d.rI rfl (d.rI rfl (d.rI rfl (JC V z λs u Q A X N=>?_)))));have:=g.1;exact hR s u Q (g.trans A) X λc F=>by have:=N c F;omega
def JE (H:Hw)(e:Int×B5):List Int:=if UJ H e.2 then[]else QV H.sp e.2
def I4 (H:Hw)(x:Gu):List Int:=x.kn.flatMap (JE H)
end Go.Ar
namespace Go.Proofs
open Go.Shelf
end Go.Proofs
namespace Go.Ar
open Go Go.Vc Go.Proofs Go.RowKit Go.Maps Go.Sort Go.Shelf
open Go.Vc (bU dA cO)
open Go.Bu (lj HV Uj HO VG Ax)
variable {U w w':Hp}{F P Q X S:Rg}{L:dE}{H H':Hw}{held:List Pc}{s0 sp:Sp}{t n:Nat}{g:Th}{σ0:Hp}
def jZ (b:Bk):List Value:=[.int .i64 b.1,.int .i64 b.2.1,.int .i64 b.2.2.1,.int .i64 b.2.2.2]
def jt (bs:List Bk):List Value:=bs.flatMap jZ
theorem BI (bs:List Bk):(jt bs).length=bs.length*4:=by
 unfold jt
 induction bs with
 | nil=>rfl
 | cons b bs ih=>rw[pt,zK,ih];simp[jZ];omega
theorem DP:∀{bs:List Bk} {i:Nat} {b:Bk},bs[i]?=some b->∀{j:Nat} {v:Value},(jZ b)[j]?=some v->(jt bs)[4*i+j]?=some v
 | [],i,b,h,_,_,_=>by simp at h
 | a::bs,0,b,h,j,v,hv=>by
  simp only[zx,Option.some.injEq]at h;subst h;have hj:=(cX.1 hv).1;show(jZ a++jt bs)[4*0+j]?=_;rw[show 4*0+j=j by omega,zd hj];exact hv
 | a::bs,i+1,b,h,j,v,hv=>by
  have d:=DP (bs:=bs) (i:=i) (b:=b) (by simpa using h) hv;show(jZ a++jt bs)[4*(i+1)+j]?=_;rw[zp (by simp[jZ];omega)];have:4*(i+1)+j-(jZ a).length=4*i+j:=by simp[jZ];omega
  rw[this];exact d
theorem cV.uj {B:Nat}{s:Sl}{xs:List Value}(h:lj B U s xs):cV s 1 xs U (λb=>B<=b):=by
 refine⟨by have:=h.1;omega,?_⟩;rcases h.2 with⟨h0,_⟩|⟨b,cs,hb,ha,hk,hc⟩
 ·exact .inl h0
 ·exact .inr ⟨b,0,cs,hb,ha,hk.q,λj a=>by rw[zH];exact hc j a⟩
theorem Dh {s:Sl}{bs:List Bk}(hs:cV s 4 (jt bs) U F){i:Nat}{b:Bk}(hb:bs[i]?=some b){K:Addr->Prop}(hK:∀bb o,(∀(j:Nat) v,(jZ b)[j]?=some v->cell U ⟨bb,o+j,none⟩=some v)->K ⟨bb,o,none⟩):Ix s.a s.len (i:Int) 4 K:=by
 have p:=(cX.1 hb).1;have w:s.len=bs.length:=by have:=hs.1;rw[BI]at this;omega
 obtain⟨bb,o,g,x⟩:=hs.cell (DP hb (j:=0) rfl);rw[g];refine ix O O ?_;rw[add_lit,dG];refine hK bb _ λj v r=>?_;obtain⟨y,u,d,m⟩:=hs.cell (DP hb r);rw[g]at d;cases d;rw[←m];congr 2;omega
end Go.Ar
namespace Go.Proofs
open Go.Shelf
def Tryz.ij:Go.Shelf.Ren:=⟨fun|7=>67|10=>113|n=>n,fun|23=>72|26=>3|3=>106|28=>116|0=>0|27=>115|33=>118|4=>4|n=>n,fun|n=>n⟩
theorem Tryz.lF:Go.Proofs.SlLaysZI.n7 Tryz.prog Tryz.ij:={
 mixed:=by kernel_rfl
 f7:=⟨Tryz.f67.name,by decide,Tryz.func67.trans (congrArg some (by kernel_rfl))⟩
 f10:=⟨Tryz.f113.name,by decide,Tryz.func113.trans (congrArg some (by kernel_rfl))⟩
 t0:=Tryz.underlying0
 a0:=Tryz.isAgg0
 z0:=Tryz.sizeOf0
 v0:=Tryz.zeroValue0
 t4:=Tryz.underlying4
 a4:=Tryz.isAgg4
 z4:=Tryz.sizeOf4
 v4:=Tryz.zeroValue4
 t23:=Tryz.underlying72
 a23:=Tryz.isAgg72
 z23:=Tryz.sizeOf72
 v23:=Tryz.zeroValue72
 t26:=Tryz.underlying3
 a26:=Tryz.isAgg3
 z26:=Tryz.sizeOf3
 v26:=Tryz.zeroValue3
 t27:=Tryz.underlying115
 a27:=Tryz.isAgg115
 z27:=Tryz.sizeOf115
 v27:=Tryz.zeroValue115
 t28:=Tryz.underlying116
 a28:=Tryz.isAgg116
 z28:=Tryz.sizeOf116
 v28:=Tryz.zeroValue116
 t33:=Tryz.underlying118
 a33:=Tryz.isAgg118
 z33:=Tryz.sizeOf118
 v33:=Tryz.zeroValue118}
end Go.Proofs
namespace Go.Proofs
open Go.Vc
set_option maxRecDepth 100000
def XN.h:Hn:=.q .o1 (.q (.q .o5 .aK) (.q (.q .o1 (.k (.loop [(5,.I)] (.q (.q .o4 (.c .l .l)) (.q (.k (.q (.oq 9) .aK)) .o3))))) .aM))
def XN.v (a b:Sl)(c:Hp)(d:aO):Prop:=If (((a.len:Nat):Int) != ((b.len:Nat):Int)) (d false c) (XS [bO] (λe=>e 0 c) λf (g:Int) h=>If (g<((a.len:Nat):Int)) (Ix a.a a.len g 1 λi=>bN i h λj=>Ix b.a b.len g 1 λk=>bN k h λl=>If (j != l) (d false h) (bM (g+1) λm=>f m h)) (d true h))
theorem XN.o {a b c d}(e:XN.v a b c d):XN.c a b c d:=Wa Tryz.func19 (x:=XN.h) (R0 e)
def Y7.h:Hn:=.q .o1 (.q .o6 .l)
def Y7.v (a:Int)(b:Hp)(c:aN):Prop:=bM (a+8) λd=>bM (d-1) λe=>Nz 8<|bM (e.tdiv 8) λf=>bM (f*8) λg=>c g b
theorem Y7.o {a b c}(d:Y7.v a b c):Y7.c a b c:=Wa Tryz.func28 (x:=Y7.h) (R0 d)
def XP.h:Hn:=.q .o2 (.q .o1 (.q (.q .o3 (.k (.loop [(3,.one .s),(4,.I)] (.q (.q (.cU (.held true [] (.tk [0,1,2,3,4] (.all [(5,.take 6 (.take 7 (.done)))])))) (.c .l .l)) (.q (.k .o5) .o3))))) .aL))
def XP.v (a b c d:Int)(e:Hp)(f:Sl->Hp->Prop):Prop:=aV #[.I a,.I b,.I c,.I d] 48 e λg h=>aQ g 0 h λi=>XS [.s,bO] (λj=>j ⟨none,0,0⟩ i h) λk (l:Sl) (m:Int) n=>dS n λo=>aS o g 0 λp=>aS o g 1 λq=>Y7.c q n λr s=>And (o s) <| bM (p+r) λt=>If (m<t) (aV #[.I m] 3 s λu v=>App l 1 8 3 [.I 0] ⟨some u,1,1⟩ v λw x=>bM (m+8) λy=>k w y x) (f l s)
theorem XP.o {a b c d e f}(g:XP.v a b c d e f):XP.c a b c d e f:=Wa Tryz.func31 (x:=XP.h) (R0 g)
end Go.Proofs
namespace Go.Ar
open Go Go.Vc Go.Proofs Go.RowKit Go.Maps Go.Sort Go.Shelf
open Go.Vc (bU dA cO)
open Go.Bu (lj HV Uj HO VG Ax)
variable {size align:Int}{U σ0 v w w':Hp}{F P Q X T:Rg}{L:dE}{H H' H1:Hw}{held:List Pc}{s0 sp:Sp}{t n:Nat}{g:Th}{gb km fm m:Nat}{x y:Gu}{b:B5}
theorem Cc {k:IntKind}{c:CK}{l:List (Int×c.T)}{r:Nat}{a a':CK}{x0:a.T}{y0:a'.T}{A:a.T->a'.T->Hp->Prop}{body:Int->c.T->a.T->a'.T->Hp->(a.T->a'.T->Hp->Prop)->Prop}(hm:dM U r k c l)(I:List (Int×c.T)->a.T->a'.T->Hp->Prop)
 (h0:∀v,v.size=U.size+1->aF U v->I l x0 y0 v)
 (hend:∀z y v,I [] z y v->A z y v)
 (hstep:∀todo n x z y v v' (J:a.T->a'.T->Hp->Prop),I todo z y v->(n,x)∈todo->Kb v v' U.size->U.size<v.size->(∀z' y' w,w[U.size]?=v'[U.size]?->w[r]?=v'[r]?->I (todo.filter λy=>!(y.1==n)) z' y' w->J z' y' w)->body n x z y v' J) :
 pD k c (some r) U λit v3=>XS [a,a'] (λI=>I x0 y0 v3) λJ1 z y v4=>p7 k c it v4 (A z y v4) λ_ _ v5=>pj k c it v5 λkey1 val1=>body key1 val1 z y v5 J1:=by
 refine⟨l,hm,λv M K hi=>?_⟩;have Q:aF U v:=⟨O,λb C _=>K b C⟩;refine Uo (a:=a) (bb:=a') (λz y w=>∃todo g,It w U.size k c (some r) l todo g/\I todo z y w/\U.size<w.size) (λ_ _ w=>ye w U.size r) ⟨l,none,hi,h0 v M Q,O⟩ ?_;rintro z y w ⟨todo,g,j,D,p⟩;refine⟨rfl,some r,l,todo,g,j,λG=>?_,λn x E N H i=>?_⟩
 ·subst G;exact hend z y w D
 ·refine⟨rfl,some r,l,_,n,x,i,hstep todo n x z y w N _ D E H p λz' y' u m B s=>?_⟩;have d:=i.bS m B;refine⟨⟨_,_,d,s,?_⟩,?_⟩
  ·obtain⟨R,L,F,P,_⟩:=d;exact(jT.1 P).1
  ·rw[d.num,j.num];exact DU.2 ⟨(n,x),E,by simp⟩
def mh (ofV:B5->Int)(addr:Int)(b:B5):Prop:=b.1<=addr/\addr<b.1+ofV b
instance (ofV:B5->Int) (addr:Int) (b:B5):Decidable (mh ofV addr b):=by unfold mh;infer_instance
set_option maxRecDepth 16000 in
theorem Fh (p:GP σ0 U L H held s0 P gb km fm x)(xi:∀e∈x.kn,e.1=e.2.1/\gL e.2)(addr:Int){ofv:Fv}{ofV:B5->Int}(hov:∀b,gL b->0<=ofV b/\ofV b<=100000)
 (hof:∀(b:B5) (u:Hp) (K:aN),gL b->(∀u',aF u u'->K (ofV b) u')->VQ Tryz.prog ofv [.agg #[.int .i64 b.1,.int .i64 b.2.1,.int .i64 b.2.2.1,.int .i64 b.2.2.2.1,.int .i64 b.2.2.2.2]] [.one bO] u K)
 {R:Int->Int->Int->Int->Int->Bool->Hp->Prop}
 (h0:∀(b:B5) w,aF U w->(∀e∈x.kn,¬mh ofV addr e.2)->R b.1 b.2.1 b.2.2.1 b.2.2.2.1 b.2.2.2.2 false w)
 (h1:∀e w,aF U w->e∈x.kn->mh ofV addr e.2->R e.2.1 e.2.2.1 e.2.2.2.1 e.2.2.2.2.1 e.2.2.2.2.2 true w) :
 Zx.c (aW gb) addr ofv U R:=by
 refine Zx.o ?_;unfold Zx.v;refine nw (cs:=fB (0,0,0,0,0)) λv hz e b6=>nw (cs:=fB (0,0,0,0,0)) λv1 hz1 e1 b8=>?_;have e01:=e.trans e1;have p1:=p.fr e01;refine bL (p1.b.rM rfl ?_);refine Cc (a:=.b) (a':=.b) p1.m (λg (d D:Bool) u=>aF U u/\v1.size<u.size/\bY u U.size (fB (0,0,0,0,0))/\(∀e∈g,e∈x.kn)/\∃iN:B5,bY u v.size (fB iN)/\(d=false->∀e∈x.kn,e∈g\/¬mh ofV addr e.2)/\(d=true->∃e∈x.kn,e.2=iN/\mh ofV addr e.2))
  (λu hu Y=>⟨e01.trans Y,O,Y.bV (e1.bV b6 id) id,λe F=>F,(0,0,0,0,0),Y.bV b8 id,λ_ e F=>.inl F,λh=>by cases h⟩) ?_ ?_
 ·rintro(d:Bool) (D:Bool) u ⟨Y,hlt,hb6,_,iN,C,hf0,hf1⟩;refine C.rI rfl (C.rI rfl (C.rI rfl (C.rI rfl (C.rI rfl ?_))));refine hb6.s1 (by simp[fB]) λv3 o3 b3=>b3.s1 (by simp[fB]) λv4 o4 b4=>b4.s1 (by simp[fB]) λv5 o5 b5=>b5.s1 (by simp[fB]) λv6 o6 b6=>b6.s1 (by simp[fB]) λv7 o7 b7=>?_;have eo:Ext (· = U.size) u v7:=(((o3.ext.trans o4.ext).trans o5.ext).trans o6.ext).trans o7.ext;have e7:aF U v7:=Ext.fresh Y eo λi (hi:i=U.size)=>by omega
  have A:bY v7 U.size (fB iN):=b7;refine A.rI rfl (A.rI rfl (A.rI rfl (A.rI rfl (A.rI rfl ?_))));cases d with
  | false=>exact h0 iN v7 e7 λe F=>(hf0 rfl e F).resolve_left aA
  | true=>
   obtain⟨e,F,rfl,M⟩:=hf1 rfl;exact h1 e v7 e7 F M
 ·rintro g k (b:B5) (d:Bool) (D:Bool) u u' J ⟨Y,hlt,hb6,E,iN,C,hf0,hf1⟩ S o1 hs1 hJ;have bi:gL b:=(xi _ (E _ S)).2;have ov:=hov b bi;have zu:=Y.1;have hz':=o1.1;have hbm:=bi.m;have hbz:=bi.z;have hbb:=bi.base;have hbt:=bi.t;have hbs:=bi.s;have hww:=ZE (n:=b.2.1) O;have eu':aF U u':=Ext.fresh Y o1.ext λc (hc:c=v1.size)=>by omega
  have Z:=o1.ext.bV hb6 (show ¬U.size=v1.size by omega);have X:=o1.ext.bV C (show ¬v.size=v1.size by omega);have hkm:=p.m.lt;refine nw (cs:=fB (0,0,0,0,0)) λv2 hz2 e2 b2=>b2.s1 (by simp[fB]) λv3 o3 b3=>b3.s1 (by simp[fB]) λv4 o4 b4=>b4.s1 (by simp[fB]) λv5 o5 b5=>b5.s1 (by simp[fB]) λv6 o6 b6=>b6.s1 (by simp[fB]) λv7 o7 b7=>?_;have eo:Ext (· = u'.size) v2 v7:=(((o3.ext.trans o4.ext).trans o5.ext).trans o6.ext).trans o7.ext;have e7:aF u' v7:=Ext.fresh e2 eo λi (hi:i=u'.size)=>by omega
  have A:bY v7 u'.size (fB b):=b7;have W:∀{w:Hp},aF u' w->w[v1.size]?=u'[v1.size]?/\w[km]?=u'[km]? := λe=>⟨e.2 _ O id,e.2 _ O id⟩;have Q:∀e∈g.filter (λy=>!(y.1==k)),e∈x.kn:=λe F=>E e (zJ.1 F).1;have hkb:∀e∈x.kn,e∈g->e∈g.filter (λy=>!(y.1==k))\/e=(k,b):=λe F ht=>by
   by_cases hk:e.1=k
   ·right;have h1:=Qg p.m.nodup (show(e.1,e.2)∈x.kn from F);have h2:=Qg p.m.nodup (E _ S);rw[hk,h2]at h1;exact Prod.ext hk (Option.some.inj h1).symm
   ·exact .inl (zJ.2 ⟨ht,by simpa using hk⟩)
  have same:∀w,aF u' w->(d=false->¬mh ofV addr b)->J d D w:=λw ew hnb=>by
   have zw:=ew.1;refine hJ d D w (W ew).1 (W ew).2 ⟨eu'.trans ew,O,ew.bV Z id,Q,iN,ew.bV X id,λB e F=>?_,hf1⟩;rcases hf0 B e F with h|h
   ·rcases hkb e F h with h|rfl
    ·exact .inl h
    ·exact .inr (hnb B)
   ·exact .inr h
  refine AK (λr u2=>aF u' u2/\bY u2 u'.size (fB b)/\r = !decide (mh ofV addr b)) (λr u2 ⟨eu2,G,hr⟩=>?_) λJ1 hJ1=>?_
  ·by_cases M:mh ofV addr b
   ·refine cD (by rw[hr,zI M];rfl) ?_;have pu:=(p.fr eu').fr eu2;refine G.rI rfl (G.rI rfl (G.rI rfl (G.rI rfl (G.rI rfl (yz pu b λV e17=>?_)))));have E17:=eu2.trans e17;have j:=e17.bV G id;have h617:=E17.bV Z id;have aa:=E17.bV X id;refine KP (λr u3=>u3=V/\(d=false->r=true)) (λr u3 ⟨hu3,hr3⟩=>?_) λJ2 hJ2=>?_
    ·rw[hu3];refine KP (λr1 u4=>u4=V/\(d=false->r1=true)) (λr1 u4 ⟨hu4,hr4⟩=>?_) λJ3 hJ3=>?_
     ·rw[hu4];refine cR (λh1=>?_) λh1=>same V E17 λB=>by rw[hr4 B]at h1;cases h1
      refine j.rI rfl (j.rI rfl (j.rI rfl (j.rI rfl (j.rI rfl ?_))));refine aa.s1 (by simp[fB]) λw3 q3 c3=>c3.s1 (by simp[fB]) λw4 q4 c4=>c4.s1 (by simp[fB]) λw5 q5 c5=>c5.s1 (by simp[fB]) λw6 q6 c6=>c6.s1 (by simp[fB]) λw7 q7 c7=>?_;have qo:Ext (· = v.size) V w7:=(((q3.ext.trans q4.ext).trans q5.ext).trans q6.ext).trans q7.ext;have c7':bY w7 v.size (fB b):=c7;have z17:=E17.1;have zq:=qo.1;refine hJ true _ w7 ?_ ?_ ⟨Ext.fresh (eu'.trans E17) qo λc (hc:c=v.size)=>O,O,qo.bV h617 (show ¬U.size=v.size by omega),Q,b,c7',λh=>(by cases h),λ_=>⟨(k,b),E _ S,rfl,M⟩⟩
      ·rw[qo.2 _ O (show ¬v1.size=v.size by omega)];exact(W E17).1
      ·rw[qo.2 _ O (show ¬km=v.size by omega)];exact(W E17).2
     ·refine cR (λh=>hJ3 _ _ ⟨rfl,λ_=>rfl⟩) λh=>?_;have N:¬d=false:=λB=>by rw[hr3 B]at h;cases h
      exact bX.intro (cR (λ_=>j.rI rfl (aa.rI rfl (hJ3 _ _ ⟨rfl,λB=>(N B).elim⟩))) λ_=>hJ3 _ _ ⟨rfl,λB=>(N B).elim⟩)
    ·refine cR (λh=>hJ2 _ _ ⟨rfl,λ_=>rfl⟩) λh=>?_;have N:¬d=false:=λB=>by rw[B]at h;cases h
     exact bX.intro (cR (λ_=>hJ2 _ _ ⟨rfl,λB=>(N B).elim⟩) λ_=>hJ2 _ _ ⟨rfl,λB=>(N B).elim⟩)
   ·exact cF (by rw[hr,zL M];rfl) (same u2 eu2 λ_=>M)
  ·have hS:∀m,aF v7 m->bY m u'.size (fB b):=λm e=>e.bV A id;refine⟨λm=>aF v7 m,Ext.refl _ _,pw (c:=bO) (y:=b.1) hS rfl (cN (λh=>hJ1 _ _ ⟨e7,A,?_⟩) λh=>?_)⟩
   ·rw[zL];rfl;rintro⟨h1,_⟩;exact absurd h O
   ·refine pw (c:=bO) (y:=b.1) hS rfl (gI (c:=bO) (y:=b.1) hS rfl (gI (c:=bO) (y:=b.2.1) hS rfl (gI (c:=bO) (y:=b.2.2.1) hS rfl (gI (c:=bO) (y:=b.2.2.2.1) hS rfl (gI (c:=bO) (y:=b.2.2.2.2) hS rfl (hof b v7 _ bi λu3 e3=>⟨e3,ar O O (hJ1 _ _ ⟨e7.trans e3,e3.bV A id,?_⟩)⟩))))));rw[kU,mS,decide_eq_true_iff,decide_eq_false_iff_not];unfold mh;omega
theorem OW (b:B5)(u:Hp)(K:aN)(bi:gL b)(hK:∀u',aF u u'->K (Zk b.2.1) u'):VQ Tryz.prog ⟨98,#[],#[]⟩ [.agg #[.int .i64 b.1,.int .i64 b.2.1,.int .i64 b.2.2.1,.int .i64 b.2.2.2.1,.int .i64 b.2.2.2.2]] [.one bO] u K:=by
 have:=bi.s;refine Gy (all := #[.agg #[.int .i64 b.1,.int .i64 b.2.1,.int .i64 b.2.2.1,.int .i64 b.2.2.2.1,.int .i64 b.2.2.2.2]]) (by kernel_rfl) aA ?_;exact HD b O O hK
theorem Og (b:B5)(u:Hp)(K:aN)(bi:gL b)(hK:∀u',aF u u'->K b.2.1 u'):VQ Tryz.prog ⟨60,#[],#[]⟩ [.agg #[.int .i64 b.1,.int .i64 b.2.1,.int .i64 b.2.2.1,.int .i64 b.2.2.2.1,.int .i64 b.2.2.2.2]] [.one bO] u K:=by
 refine Gy (all := #[.agg #[.int .i64 b.1,.int .i64 b.2.1,.int .i64 b.2.2.1,.int .i64 b.2.2.2.1,.int .i64 b.2.2.2.2]]) (by kernel_rfl) aA ?_;refine YZ.o ?_;unfold YZ.v;exact nw (cs:=fB b) λv d e a=>a.fD rfl (hK v e)
def Ey (addr:Int)(b:B5):Prop:=mh (λb=>Zk b.2.1) addr b
def EY (addr:Int)(b:B5):Prop:=mh (λb=>b.2.1) addr b
def pK (H:Hw)(x:Gu)(addr e:Int):Prop:=(e=7/\((∀k∈x.kn,¬Ey addr k.2)\/addr%8≠0))\/(∃k∈x.kn,Ey addr k.2/\addr%8=0/\e=if UJ H k.2 then 5 else 0)
set_option maxRecDepth 16000 in
theorem Il (p:GP σ0 U L H held s0 P gb km fm x)(xi:∀e∈x.kn,e.1=e.2.1/\gL e.2)(addr:Int){R:aN}(hR:∀e w,aF U w->pK H x addr e->R e w):Yk.c (aW gb) addr U R:=by
 refine Yk.o ?_;unfold Yk.v;have M:∀b,gL b->0<=Zk b.2.1/\Zk b.2.1<=100000:=λb A=>by have:=A.s;have:=ZE (n:=b.2.1) O;omega
 have box:∀{Z:Nat} {w:Hp} {G Q S F C:Int} {K:Addr->Hp->Prop},(∀g,aF w g->bY g w.size (fB (G,Q,S,F,C))->K ⟨w.size,0,none⟩ g) →
  Nw (.cells #[.int .i64 0,.int .i64 0,.int .i64 0,.int .i64 0,.int .i64 0] Z (0,0)) w λm v2=>dF (m.add 0) (.int .i64 G) v2 λv3=>dF (m.add 1) (.int .i64 Q) v3 λW=>dF (m.add 2) (.int .i64 S) W λV=>dF (m.add 3) (.int .i64 F) V λv6=>dF (m.add 4) (.int .i64 C) v6 λv7=>K m v7:=λ{Z w G Q S F C K} hK=>
  nw (cs:=fB (0,0,0,0,0)) λv2 hz2 e2 b2=>b2.s1 (by simp[fB]) λv3 o3 b3=>b3.s1 (by simp[fB]) λW o4 b4=>b4.s1 (by simp[fB]) λV o5 b5=>b5.s1 (by simp[fB]) λv6 o6 b6=>b6.s1 (by simp[fB]) λv7 o7 d=>
   hK v7 (Ext.fresh e2 ((((o3.ext.trans o4.ext).trans o5.ext).trans o6.ext).trans o7.ext) λi (hi:i=w.size)=>O) d
 refine Ul p (cD rfl (Fh p xi addr M OW (λb w B hn=>?_) λk w B E j=>?_))
 ·refine box λg D d=>bX.intro (cF rfl (cF rfl (hR 7 g (B.trans D) (.inl ⟨rfl,.inl hn⟩))))
 ·refine box λg D d=>?_;have A:gL k.2:=(xi _ E).2;have h0:0<=addr:=by have:=j.1;have:=A.z;have:=A.base;omega
  have a:=B.trans D;refine KP (λr u=>u=g/\r=decide (addr%8≠0)) (λr u ⟨hu,X⟩=>?_) λJ hJ=>cD rfl (nz aB (hJ _ _ ⟨rfl,?_⟩))
  ·rw[hu];by_cases h8:addr%8≠0
   ·exact cF (by rw[X];exact zI h8) (hR 7 g a (.inl ⟨rfl,.inr h8⟩))
   ·refine cD (by rw[X];exact zL h8) (d.rI rfl (d.rI rfl (d.rI rfl (d.rI rfl (d.rI rfl (yz (p.fr a) k.2 λw9 Y=>?_))))));have y:addr%8=0:=by omega
    refine cR (λN=>hR 5 w9 (a.trans Y) (.inr ⟨k,E,j,y,by rw[N];rfl⟩)) λN=>hR 0 w9 (a.trans Y) (.inr ⟨k,E,j,y,by rw[N];rfl⟩)
  ·rw[Kh h0];by_cases h8:addr%8=0
   ·rw[h8];decide
   ·rw[zI h8];simpa using h8
theorem Ψ (p:GP σ0 U L H held s0 P gb km fm x)(xi:∀e∈x.kn,e.1=e.2.1/\gL e.2)(addr:Int)(ha:addr<=9223372036854775807){R:Int->Int->Hp->Prop}(h0:∀e w,e≠0->aF U w->pK H x addr e->R 0 e w)(h1:∀w,aF U w->pK H x addr 0->R (QZ H.sp addr) (eO H.sp addr) w):Za.c (aW gb) addr U R:=by
 refine Za.o ?_;unfold Za.v;refine Il p xi addr λe w a j=>cR (λd=>h0 e w (by simpa using d) a j) λg=>?_;have m:e=0:=by simpa using g
 subst m;have i:=p.fr a;exact bL (i.b.rP rfl (Gb i.h addr ha λr e2=>h1 r (a.trans e2) j))
theorem Oo (p:GP σ0 U L H held s0 P gb km fm x)(gc:Gc σ0)(xi:∀e∈x.kn,e.1=e.2.1/\gL e.2)(addr u:Int)(ha:addr<=9223372036854775807){R:aN}(h0:∀e w,e≠0->aF U w->pK H x addr e->R e w)
 (h1:∀w s0' P',pK H x addr 0->Ext P U w->GP σ0 w L {H with sp:=ZL H.sp addr u} held s0' P' gb km fm x->(∀c,P' c->P c\/U.size<=c)->R (eO H.sp addr) w):YE.c (aW gb) addr u U R:=by
 refine YE.o ?_;unfold YE.v;refine Il p xi addr λe w a m=>cR (λg=>h0 e w (by simpa using g) a m) λd=>?_;have s:e=0:=by simpa using d
 subst s;have j:=p.fr a;have A:=a.1;exact bL (j.b.rP rfl (j.write gc addr u ha λy s2 P2 e2 z i=>h1 y s2 P2 m ((aF.to a).trans e2) z λc r=>(i c r).imp id λh=>O))
set_option maxRecDepth 16000 in
theorem WjP (p:GP σ0 U L H held s0 P gb km fm x)(xi:∀e∈x.kn,e.1=e.2.1/\gL e.2)(addr:Int){R:Int->Int->Int->Int->Int->Hp->Prop}(h0:∀w,aF U w->(∀k∈x.kn,¬EY addr k.2)->R 0 0 0 0 8 w)(h1:∀k w,aF U w->k∈x.kn->EY addr k.2->R k.2.1 k.2.2.1 k.2.2.2.1 k.2.2.2.2.1 0 w):Xa.c (aW gb) addr U R:=by
 refine Xa.o ?_;unfold Xa.v;have M:∀b,gL b->0<=b.2.1/\b.2.1<=100000:=λb bi=>by have:=bi.s;omega
 refine nw (cs:=[.int .i64 0,.int .i64 0,.int .i64 0,.int .i64 0]) λv hz e b4=>?_;have j:∀{w:Hp} {a b c d:Int} {K:Int->Int->Int->Int->Hp->Prop},aF U w->bY w U.size [.int .i64 0,.int .i64 0,.int .i64 0,.int .i64 0]->(∀g,aF U g->K a b c d g) →
  dF (Addr.add ⟨U.size,0,none⟩ 0) (.int .i64 a) w λv7=>dF (Addr.add ⟨U.size,0,none⟩ 1) (.int .i64 b) v7 λv8=>dF (Addr.add ⟨U.size,0,none⟩ 2) (.int .i64 c) v8 λv9=>dF (Addr.add ⟨U.size,0,none⟩ 3) (.int .i64 d) v9 λv10=>
  gH .i64 (Addr.add ⟨U.size,0,none⟩ 0) v10 λr0=>gH .i64 (Addr.add ⟨U.size,0,none⟩ 1) v10 λr1=>gH .i64 (Addr.add ⟨U.size,0,none⟩ 2) v10 λr2=>gH .i64 (Addr.add ⟨U.size,0,none⟩ 3) v10 λr3=>K r0 r1 r2 r3 v10:=λr B E=>
  B.s1 aA λv1 o1 b1=>b1.s1 aA λW o2 D=>D.s1 aA λv3 o3 Q=>Q.s1 aA λA o4 b4=>b4.rI rfl (b4.rI rfl (b4.rI rfl (b4.rI rfl (E A ((((r.only o1 (.inr (zD _))).only o2 (.inr (zD _))).only o3 (.inr (zD _))).only o4 (.inr (zD _)))))))
 have box:∀{Z:Nat} {w:Hp} {J S V G C:Int} {K:Addr->Hp->Prop},(∀z,aF w z->bY z w.size (fB (J,S,V,G,C))->K ⟨w.size,0,none⟩ z) →
  Nw (.cells #[.int .i64 0,.int .i64 0,.int .i64 0,.int .i64 0,.int .i64 0] Z (0,0)) w λu W=>dF (u.add 0) (.int .i64 J) W λv3=>dF (u.add 1) (.int .i64 S) v3 λA=>dF (u.add 2) (.int .i64 V) A λY=>dF (u.add 3) (.int .i64 G) Y λv6=>dF (u.add 4) (.int .i64 C) v6 λv7=>K u v7:=λ{Z w J S V G C K} E=>
  nw (cs:=fB (0,0,0,0,0)) λW hz2 e2 D=>D.s1 (by simp[fB]) λv3 o3 Q=>Q.s1 (by simp[fB]) λA o4 b4=>b4.s1 (by simp[fB]) λY o5 b5=>b5.s1 (by simp[fB]) λv6 o6 b6=>b6.s1 (by simp[fB]) λv7 o7 m=>
   E v7 (Ext.fresh e2 ((((o3.ext.trans o4.ext).trans o5.ext).trans o6.ext).trans o7.ext) λi (hi:i=w.size)=>O) m
 have X:=p.fr e;refine Ul X (cD rfl (Fh X xi addr M Og (λb w r hn=>?_) λk w r hk N=>?_))
 ·refine box λz y m=>cF rfl (j (K:=λa b c d g=>R a b c d 8 g) ((e.trans r).trans y) ((r.trans y).bV b4 id) λg F=>h0 g F hn)
 ·refine box λz y m=>cD rfl (m.fD rfl (m.fD rfl (m.fD rfl (m.fD rfl ?_))));exact j (K:=λa b c d g=>R a b c d 0 g) ((e.trans r).trans y) ((r.trans y).bV b4 id) λg F=>h1 k g F hk N
theorem AN (p:GP σ0 U L H held s0 P gb km fm x){R:Option Addr->Hp->Prop}(hR:R (some ⟨L.p,0,none⟩) U):XH.c (aW gb) U R:=by
 refine XH.o ?_;unfold XH.v;exact Ul p (cD rfl (bL (p.b.rP rfl hR)))
end Go.Ar
namespace Go.Ar
open Go Go.Vc Go.Proofs
open Go.Vc (bU dA cO)
variable {size align:Int}{U σ0 v w w':Hp}{F P Q X T:Rg}{L:dE}{H H' H1:Hw}{held:List Pc}{s0 sp:Sp}{t n:Nat}{g:Th}{gb km fm m:Nat}{x y:Gu}{b:B5}
theorem iG.xX {n m:Nat}{H H1 H2:Hw}{t:Nat}{p:Ph}{a1 e1 a2 e2:Int}(h:iG n H t p H1 a1 e1)(h':iG m H t p H2 a2 e2):H1=H2/\a1=a2/\e1=e2:=by
 induction h generalizing m with
 | done h1 h2=>
  cases h' with
  | done=>exact⟨rfl,rfl,rfl⟩
  | next _ h3 _=>rw[h2]at h3;cases h3
 | next h1 h2 _ ih=>
  cases h' with
  | done _ h3=>rw[h2]at h3;cases h3
  | next _ h3 h4=>rw[h2]at h3;cases h3;exact ih h4
theorem KO.xX {thread kind size align addr a1 e1 a2 e2:Int}{H1 H2:Hw}(h:KO H thread kind size align addr H1 a1 e1)(h':KO H thread kind size align addr H2 a2 e2):H1=H2/\a1=a2/\e1=e2:=by
 rcases h with⟨h1,_,rfl,rfl⟩|⟨t,p,n,h1,h2⟩
 ·rcases h' with⟨g1,_,rfl,rfl⟩|⟨_,_,_,g1,_⟩
  ·rw[h1]at g1;cases g1;exact⟨rfl,rfl,rfl⟩
  ·rw[h1]at g1;cases g1
 ·rcases h' with⟨g1,_⟩|⟨_,_,_,g1,g2⟩
  ·rw[h1]at g1;cases g1
  ·rw[h1]at g1;cases g1;exact h2.xX g2
theorem SA:uy w0 64:=by
 have h:=F2 (xs:=qR 8) (p:=64) (a:=1) (t:=1) (b:=1024) (r:=2) (Gj 8 aB aB) aB;rw[wM]at h;exact h
theorem PM {a:Option Addr}{thread addr:Int}{R:aN}(h:XV.c a thread addr true U R):Y4.c a thread addr U R:=Y4.o (by unfold Y4.v;exact h)
theorem H7 (H:Hw)(thread:Int):UG H thread=if 0<=thread/\thread<(H.bR.length:Int)then fK H thread.toNat else none:=by
 unfold UG fK;split
 ·cases H.bR[thread.toNat]?<;>rfl
 ·rfl
theorem Sz (o:fR H H')(thread:Int):ZX H' thread=ZX H thread:=by
 unfold ZX;rw[H7,H7,o.kp.2.1,o.kp.2.2.1,o.ph]
theorem EN {a b:Sl}{xs ys:List Int}{G:Rg}(ha:cV a 1 (Wu xs) U F)(hb:cV b 1 (Wu ys) U G)(hl:xs.length<=1000000000){R:aO}(hR:R (decide (xs=ys)) U):XN.c a b U R:=by
 refine XN.o ?_;unfold XN.v;have B:a.len=xs.length:=by have:=ha.1;simp[Wu]at this;omega
 have A:b.len=ys.length:=by have:=hb.1;simp[Wu]at this;omega
 rw[B,A,r7];refine cR (λu=>?_) λu=>?_
 ·have d:xs.length≠ys.length:=by simpa using u
  rw[zL λe=>d (by rw[e])]at hR;exact hR
 have J:xs.length=ys.length:=by simpa using u
 refine Qj (a:=bO) (λ(t:Int) v=>∃i:Nat,t=(i:Int)/\i<=xs.length/\v=U/\xs.take i=ys.take i) (λt _=>xs.length-t.toNat) ⟨0,rfl,O,rfl,rfl⟩ ?_;rintro t v ⟨i,rfl,hi,rfl,g⟩;refine cN (λC=>?_) λH=>?_
 ·have s:i<xs.length:=by omega
  have j:xs[i]?=some xs[i]:=cW s;have p:ys[i]?=some (ys[i]' O):=cW _;generalize xs[i]=x at j;generalize ys[i]' O=y at p;rw[←B,←A];refine ha.ma j (hb.ma p (cR (λd=>?_) λr=>?_))
  ·have E:x≠y:=by simpa using d
   rw[zL]at hR
   ·exact hR
   ·intro e;rw[e,p]at j;exact E (Option.some.inj j).symm
  ·have w:x=y:=by simpa using r
   refine cT (m:=i+1) O O ⟨⟨i+1,rfl,O,rfl,?_⟩,O⟩;rw[kx,kx,g,j,p,w]
 ·have D:i=xs.length:=by omega
  have:xs=ys:=by
   have z:=g;rw[lH O,lH O]at z;exact z
  rw[zI this]at hR;exact hR
def gm:Hw×Int×Int:=(UR w0 0 0 56 16 0).getD (w0,0,99)
theorem Dk:gm.2=(4096,0):=by decide +kernel
theorem Ch:KO w0 0 0 56 16 0 gm.1 4096 0:=by
 have a:=Dk;unfold gm at *;cases hw:UR w0 0 0 56 16 0 with
 | none=>rw[hw]at a;exact absurd (congrArg Prod.snd a) aB
 | some r=>
  rw[hw]at a;have:=FG hw;have e1:r.2=(4096,0):=a;rw[e1]at this;exact this
def gB:B5:=(4112,24,4096,64,1)
theorem CW:Kx gm.1 4096=some 64:=by decide +kernel
def gX:Gu:=oY.eH gB
def wq:Hw:={gm.1 with sp:=jU gm.1.sp gB}
attribute [local irreducible] w0 gm wq
end Go.Ar
namespace Go.Ar
open Go.Vc (bU dA cO)
variable {size align thread addr:Int}{H H' H1:Hw}{held held1:List Pc}{s0 s1 sp:Sp}{x y:Gu}{b:B5}
theorem J8 {α:Type}{l:List (Int×α)}{n:Int}(h:bU l n=none)(v:α):dA l n v=l++[(n,v)]:=by
 unfold dA;rw[zB];intro hx;obtain⟨y,a,e⟩:=zy.1 hx;unfold bU at h;rw[tj,oB]at h;exact h y a e
theorem HG {α:Type}{l:List (Int×α)}{n:Int}:bU l n=none↔∀e∈l,e.1≠n:=by
 unfold bU;rw[tj,oB];simp only[zU]
theorem U3 {α β:Type}{f:α->β}:∀{l:List α},(l.map f).Nodup->∀{a b:α},a∈l->b∈l->f a=f b->a=b
 | [],_,_,_,h,_,_=>by simp at h
 | z::l,hn,a,b,ha,hb,e=>by
  simp only[zR,zr]at hn;rcases zW.1 ha with h1|h1
  ·rcases zW.1 hb with h2|h2
   ·rw[h1,h2]
   ·exact absurd (zE.2 ⟨b,h2,by rw[←e,h1]⟩) hn.1
  ·rcases zW.1 hb with h2|h2
   ·exact absurd (zE.2 ⟨a,h1,by rw[e,h2]⟩) hn.1
   ·exact U3 hn.2 h1 h2 e
theorem Bp (h:HI H held s0){e:Int×Bk}(he:e∈H.live){w:Nat}(h1:e.1<=((8*w:Nat):Int))(h2:((8*w:Nat):Int)<e.1+e.2.2.1):gf H.sp.st (w/32)≠0:=by
 obtain⟨_,p,a,_,_,b,d,_⟩:=h.lv e he;have:=h.mapped a (x:=8*w) O O
 rwa [show 8*w/256=w/32 by omega]at this
structure dR (H:Hw) (x:Gu):Prop where
 live:H.live.map (λe=>(e.1,e.2.2.1))=x.kn.map (λe=>(e.2.2.2.1,e.2.2.2.2.1))
 can:∀e∈x.kn,∀z∈Zl e.2,QZ H.sp z=jy z
 ph:∀j,fK H j=none
 i:∀e∈x.kn,e.1=e.2.1/\gL e.2
 nd:(x.kn.map (·.1)).Nodup
theorem IA (hi:HI H held s0){e e':Int×Bk}(he:e∈H.live)(he':e'∈H.live){z:Int}(h1:e.1<=z)(h2:z<e.1+e.2.2.1)(h3:e'.1<=z)(h4:z<e'.1+e'.2.2.1):e=e':=by
 obtain⟨_,p,b,_,_,g,j,_⟩:=hi.lv e he;obtain⟨_,q,a,_,_,d,i,_⟩:=hi.lv e' he';have:p=q:=hi.apart b a (x:=z.toNat) O O O O;subst this;exact U3 hi.lk he he' (by rw[←g,←d])
theorem dR.of (g:dR H x){e:Int×B5}(he:e∈x.kn):∃l∈H.live,l.1=e.2.2.2.1/\l.2.2.1=e.2.2.2.2.1:=by
 have:(e.2.2.2.1,e.2.2.2.2.1)∈H.live.map (λe=>(e.1,e.2.2.1)):=by rw[g.live];exact zE.2 ⟨e,he,rfl⟩
 obtain⟨l,a,h⟩:=zE.1 this;simp only[Prod.mk.injEq]at h;exact⟨l,a,h.1,h.2⟩
theorem dR.sI (g:dR H x)(hi:HI H held s0):(x.kn.map λe=>e.2.2.2.1).Nodup:=by
 have a:=congrArg (List.map Prod.fst) g.live;rw[lI,lI]at a;have b:(x.kn.map λe=>e.2.2.2.1)=H.live.map (·.1):=a.symm;rw[b];exact hi.lk
theorem dR.apart (g:dR H x)(hi:HI H held s0){e e':Int×B5}(he:e∈x.kn)(he':e'∈x.kn){z:Int}(h1:e.2.2.2.1<=z)(h2:z<e.2.2.2.1+e.2.2.2.2.1)(h3:e'.2.2.2.1<=z)(h4:z<e'.2.2.2.1+e'.2.2.2.2.1):e=e':=by
 obtain⟨l,b,i,p⟩:=g.of he;obtain⟨m,a,d,j⟩:=g.of he';have:=IA hi b a (z:=z) O O O O;subst this;exact U3 (g.sI hi) he he' (by rw[←i,←d])
theorem dR.usable (g:dR H x)(hi:HI H held s0){e:Int×B5}(he:e∈x.kn):Kx H e.2.2.2.1=some e.2.2.2.2.1:=by
 obtain⟨l,d,b,a⟩:=g.of he;unfold Kx;rw[←b,Qg hi.lk (show(l.1,l.2)∈H.live from d)];exact congrArg some a
theorem dR.lost (g:dR H x)(hi:HI H held s0){e:Int×B5}(he:e∈x.kn):UJ H e.2=false:=by
 unfold UJ;rw[g.usable hi he];simp
theorem dR.map (g:dR H x)(hi:HI H held s0){e:Int×B5}(he:e∈x.kn){w:Nat}(h1:e.2.2.2.1<=((8*w:Nat):Int))(h2:((8*w:Nat):Int)<e.2.2.2.1+e.2.2.2.2.1):gf H.sp.st (w/32)≠0:=by
 obtain⟨l,a,d,b⟩:=g.of he;exact Bp hi a O O
theorem gL.word (bi:gL b){z:Int}(h:z∈Zl b\/z∈Xr b):(∃w:Nat,z=((8*w:Nat):Int))/\b.2.2.1<=z/\z<b.2.2.1+b.2.2.2.1:=by
 have d:=bi.base;have a:=bi.z;have g:=bi.t;rcases h with h|h
 ·have:=Gg bi h;exact⟨⟨z.toNat/8,O⟩,O,O⟩
 ·have:=U8 bi h;exact⟨⟨z.toNat/8,O⟩,O,O⟩
theorem gL.nw (bi:gL b){z:Int}(h:z∈Zl b):z∉Xr b:=λa=>by
 have g:=Gg bi h;have d:=U8 bi a;omega
theorem dR.acc (g:dR H x)(hi:HI H held s0){e:Int×B5}(he:e∈x.kn){z:Int}(h:z∈Zl e.2\/z∈Xr e.2):eO H.sp z=0:=by
 obtain⟨⟨w,rfl⟩,b,a⟩:=(g.i e he).2.word h;exact U5.2 (g.map hi he b a)
theorem dR.broken (g:dR H x)(hi:HI H held s0){e:Int×B5}(he:e∈x.kn):QV H.sp e.2=[]:=by
 unfold QV;rw[C9];intro z hz;unfold jL;rw[g.acc hi he (.inl hz),g.can e he z hz];simp
theorem dR.cK (g:dR H x)(hi:HI H held s0):I4 H x=[]:=by
 unfold I4;rw[List.flatMap_eq_nil_iff];intro e he;unfold JE;rw[g.lost hi he,g.broken hi he];rfl
theorem dR.jx (bi:gL b){z:Int}(h1:b.1<=z)(h2:z<b.1+Zk b.2.1)(h8:z%8=0):z∈Xr b:=by
 have:=bi.z;have a:=ZE (n:=b.2.1) (by have:=bi.s;omega);refine zE.2 ⟨((z-b.1)/8).toNat,zg.2 ?_,O⟩;unfold ZM;omega
theorem Cn (hi:HI H held s0)(ks:KS H.sp sp){l:Int×Bk}(hl:l∈H.live){w:Nat}(h1:l.1<=((8*w:Nat):Int))(h2:((8*w:Nat):Int)<l.1+l.2.2.1):QZ sp ((8*w:Nat):Int)=QZ H.sp ((8*w:Nat):Int)/\gf sp.st (w/32)≠0:=by
 have a:=Bp hi hl h1 h2;have:=ks.k _ a;rw[AZ,AZ,zC a,zC this.1,this.2 w rfl];exact⟨rfl,this.1⟩
def Kept (H:Hw)(x:Gu)(H':Hw)(x':Gu)(e:Int×B5):Prop:=e∈x'.kn/\∀z∈Xr e.2,QZ H'.sp z=QZ H.sp z
theorem SN (bi:gL b):∀z∈Zl b,0<=z/\z%8=0:=λz a=>by
 have:=Gg bi a;have:=bi.base;omega
theorem Ea (bi:gL b):∀z∈Xr b,0<=z/\z%8=0:=λz a=>by
 have:=U8 bi a;have:=bi.base;have:=bi.z;omega
theorem dR.eH (g:dR H x)(hi:HI H held s0)(gr:vv H x size align b H1)(o:fR H H1)(hi1:HI H1 held1 s1) :
 dR {H1 with sp:=jU H1.sp b} (x.eH b)/\(x.eH b).kn=x.kn++[(b.1,b)]/\(∀e∈x.kn,Kept H x {H1 with sp:=jU H1.sp b} (x.eH b) e)/\(∀z∈Xr b,QZ (jU H1.sp b) z=0)/\eO (jU H1.sp b) b.1=0:=by
 have bi:=gr.bi;obtain⟨C,cl,r,_⟩:bU H.live b.2.2.1=none/\∃cl,H1.live=dA H.live b.2.2.1 (b.2.2.1,(oZ H.tb (zA align+Zk size+16) (zA align)).1,cl,Yi H1.bZ b.2.2.1)/\True:=by
  rcases gr.me with⟨h,_⟩|⟨_,F,_,cl,E,_⟩
  ·exact absurd rfl h
  ·exact⟨F,cl,E,trivial⟩
 have U:=gr.u;unfold Kx at U;rw[r,BW]at U;have R:(oZ H.tb (zA align+Zk size+16) (zA align)).1=b.2.2.2.1:=Option.some.inj U;rw[R]at r;rw[J8 C]at r;have Q:∃l∈H1.live,l.1=b.2.2.1/\l.2.2.1=b.2.2.2.1:=⟨(b.2.2.1,(b.2.2.1,b.2.2.2.1,cl,Yi H1.bZ b.2.2.1)),by rw[r];simp,rfl,rfl⟩;obtain⟨ln,P,W,Z⟩:=Q;have M:∀l∈H.live,l∈H1.live:=λl K=>by rw[r];exact kG _ K
 have G:∀e∈x.kn,∀z,e.2.2.2.1<=z->z<e.2.2.2.1+e.2.2.2.2.1->b.2.2.1<=z->z<b.2.2.1+b.2.2.2.1->False:=λe d z F E h3 h4=>by
  obtain⟨l,K,a1,a2⟩:=g.of d;have:=IA hi1 (M l K) P (z:=z) O O O O;subst this;have:=HG.1 C l K;exact this W
 have hb1:=bi.base;have hb2:=bi.z;have hb3:=bi.t;have ab:=ZE (n:=b.2.1) (by have:=bi.s;omega);have S:bU x.kn b.1=none:=HG.2 λe d h=>by
  have A:=(g.i e d);have q0:=A.1;have q4:=A.2.s;have aa:=bi.s;have q1:=A.2.base;have q2:=A.2.z;have q3:=A.2.t;have qw:=ZE (n:=e.2.2.1) (by have:=A.2.s;omega);exact G e d b.1 O O O O
 have y:(x.eH b).kn=x.kn++[(b.1,b)]:=J8 S b;have p:∀z,(z∈Zl b\/z∈Xr b)->∃w:Nat,z=((8*w:Nat):Int)/\gf H1.sp.st (w/32)≠0:=λz m=>by
  obtain⟨⟨w,rfl⟩,F,E⟩:=bi.word m;exact⟨w,rfl,Bp hi1 P O O⟩
 have J:=SN bi;have D:=Ea bi;obtain⟨_,X,_⟩:=yG jy (Zl b) H1.sp J;have L:∀w:Nat,((8*w:Nat):Int)∉Zl b->((8*w:Nat):Int)∉Xr b->QZ (jU H1.sp b) ((8*w:Nat):Int)=QZ H1.sp ((8*w:Nat):Int):=λw F E=>by
  unfold jU;rw[Va D,zB λh=>E h.1,Va J,zB λh=>F h.1]
 have B:∀e∈x.kn,∀z,(z∈Zl e.2\/z∈Xr e.2)->QZ (jU H1.sp b) z=QZ H.sp z:=λe d z m=>by
  obtain⟨l,K,a1,a2⟩:=g.of d;obtain⟨⟨w,rfl⟩,F,E⟩:=(g.i e d).2.word m;have:=Cn (H:=H) hi o.ks K (w:=w) O O;rw[L w (λm=>by have:=bi.word (.inl m);exact G e d _ F E this.2.1 this.2.2) (λm=>by have:=bi.word (.inr m);exact G e d _ F E this.2.1 this.2.2)];exact this.1
 refine⟨⟨?_,λe d z m=>?_,λj=>(o.ph j).trans (g.ph j),λe d=>?_,?_⟩,y,λe d=>⟨by rw[y];exact kG _ d,λz m=>B e d z (.inr m)⟩,λz m=>?_,?_⟩
 ·show H1.live.map _=_;rw[r,y,zj,zj,g.live];rfl
 ·show QZ (jU H1.sp b) z=jy z;rw[y]at d;rcases zM.1 d with d|d
  ·rw[B e d z (.inl m)];exact g.can e d z m
  ·rw[zN]at d;subst d;obtain⟨w,rfl,N⟩:=p z (.inl m);unfold jU;rw[Va D,zB λh=>bi.nw m h.1,Va J,zC ⟨m,N⟩]
 ·rw[y]at d;rcases zM.1 d with d|d
  ·exact g.i e d
  ·rw[zN]at d;subst d;exact⟨rfl,bi⟩
 ·rw[y,zj,nb];refine⟨g.nd,by simp,λa ha c Y=>?_⟩;simp only[zR,oW,zN]at Y;subst Y;obtain⟨e,d,rfl⟩:=zE.1 ha;exact HG.1 S e d
 ·obtain⟨w,rfl,N⟩:=p z (.inr m);unfold jU;rw[Va D,zC ⟨m,λh=>N ((X _).1 h)⟩]
 ·have V:b.1∈Xr b:=dR.jx bi (xE _) (by have:=bi.s;omega) bi.z.2.2;obtain⟨w,hw,N⟩:=p b.1 (.inr V);obtain⟨_,k2,_⟩:=yG (λ_=>0) (Xr b) (iI H1.sp (Zl b) jy) D;rw[hw];unfold jU;exact U5.2 λh=>N ((X _).1 ((k2 _).1 h))
theorem dR.same (g:dR H x)(hi:HI H held s0)(o:fR H H')(hl:H'.live=H.live):dR H' x/\∀e∈x.kn,Kept H x H' x e:=by
 have a:∀e∈x.kn,∀z,(z∈Zl e.2\/z∈Xr e.2)->QZ H'.sp z=QZ H.sp z:=λe b z d=>by
  obtain⟨l,hl,s,m⟩:=g.of b;obtain⟨⟨w,rfl⟩,r,p⟩:=(g.i e b).2.word d;exact(Cn (H:=H) hi o.ks hl (w:=w) O O).1
 exact⟨⟨by rw[hl];exact g.live,λe b z d=>by rw[a e b z (.inl d)];exact g.can e b z d,λj=>(o.ph j).trans (g.ph j),g.i,g.nd⟩,λe b=>⟨b,λz d=>a e b z (.inr d)⟩⟩
theorem dR.write (g:dR H x)(hi:HI H held s0){k:Int×B5}(hk:k∈x.kn){z v:Int}(hz:z∈Xr k.2):dR {H with sp:=ZL H.sp z v} x/\(∀e∈x.kn,e≠k->Kept H x {H with sp:=ZL H.sp z v} x e)/\(∀u∈Xr k.2,QZ (ZL H.sp z v) u=if u=z then v else QZ H.sp u):=by
 obtain⟨⟨d,rfl⟩,A,y⟩:=(g.i k hk).2.word (.inr hz);have p:=g.map hi hk A y;have m:∀w:Nat,QZ (ZL H.sp ((8*d:Nat):Int) v) ((8*w:Nat):Int)=if w=d/\gf H.sp.st (w/32)≠0 then v else QZ H.sp ((8*w:Nat):Int):=λw=>by
  have:=Va (f:=λ_=>v) (l:=[((8*d:Nat):Int)]) (sp:=H.sp) (λz hz=>by rw[zN]at hz;subst hz;omega) w;have e:iI H.sp [((8*d:Nat):Int)] (λ_=>v)=ZL H.sp ((8*d:Nat):Int) v:=rfl;rw[e]at this;rw[this];by_cases hw:w=d
  ·subst hw;by_cases hm:gf H.sp.st (w/32)≠0
   ·rw[zC ⟨zN.2 rfl,hm⟩,zC ⟨rfl,hm⟩]
   ·rw[zB λh=>hm h.2,zB λh=>hm h.2]
  ·rw[zB λh=>hw (by have:=zN.1 h.1;omega),zB λh=>hw h.1]
 have j:∀e∈x.kn,∀u,(u∈Zl e.2\/u∈Xr e.2)->(e=k->u∈Zl e.2)->QZ (ZL H.sp ((8*d:Nat):Int) v) u=QZ H.sp u:=λe b u a s=>by
  obtain⟨⟨w,rfl⟩,B,C⟩:=(g.i e b).2.word a;rw[m,zB];rintro⟨rfl,_⟩;have:=g.apart hi b hk B C A y;subst this;exact(g.i e b).2.nw (s rfl) hz
 refine⟨⟨g.live,λe b u a=>?_,g.ph,g.i,g.nd⟩,λe b r=>⟨b,λu a=>j e b u (.inr a) λh=>absurd h r⟩,λu a=>?_⟩
 ·show QZ (ZL H.sp ((8*d:Nat):Int) v) u=jy u;rw[j e b u (.inl a) λ_=>a];exact g.can e b u a
 ·obtain⟨⟨w,rfl⟩,B,C⟩:=(g.i k hk).2.word (.inr a);rw[m];by_cases hw:w=d
  ·subst hw;rw[zC ⟨rfl,p⟩,zC rfl]
  ·rw[zB λh=>hw h.1,zB λh=>hw O]
theorem dR.free (g:dR H x)(hi:HI H held s0){b:B5}(hk:bU x.kn addr=some b){e:Int}(hw:KO (dP H b) thread 1 0 0 b.2.2.1 H1 0 e)(o:fR (dP H b) H1)(fe:nR (dP H b) thread b.2.2.1 H1 e)(hrd:ZX H thread=0)(hcf:H.cf.threads=H.bR.length) :
 dR H1 (x.gone addr)/\∀k∈x.kn,k.1≠addr->Kept H x H1 (x.gone addr) k:=by
 have a:(addr,b)∈x.kn:=Qi hk;have C:=g.i _ a;have R:addr=b.1:=C.1;have K:gL b:=C.2;obtain⟨l,S,L,U⟩:=g.of a;simp only at L U;have F:(dP H b).live=H.live:=rfl;have E:bU H.live b.2.2.1=some l.2:=by rw[←L];exact Qg hi.lk (show(l.1,l.2)∈H.live from S)
 have p:H1.live=cO H.live b.2.2.1:=by
  rcases fe with⟨_,_,h⟩|⟨_,h,_⟩|⟨_,_,_,_,h⟩
  ·exfalso;unfold ZX at hrd;rw[H7]at hrd;split at hrd
   ·cases hrd
   ·rename_i hth;have r:=g.ph thread.toNat;unfold Vd at h;have D:thread.toNat<H.bR.length:=by omega
    rw[zC (show 0<=thread/\thread<((dP H b).bR.length:Int)from⟨O,by show thread<(H.bR.length:Int);omega⟩)]at h;have Q:(dP H b).bR[thread.toNat]?=some H.bR[thread.toNat]:=cW D;rw[Q]at h;simp only at h;unfold fK at r;rw[cW D]at r;rw[zC (show H.bR[thread.toNat].ph=none from r)]at h;unfold iR at h;rw[zB aB,zC rfl]at h;cases h
  ·rw[F,E]at h;cases h
  ·exact h
 have J:=Ea K;have u:∃s1,HI (dP H b) held s1:=HI.iI _ _ hi;obtain⟨s1,u⟩:=u;have d:∀k∈x.kn,k.1≠addr->∀z,(z∈Zl k.2\/z∈Xr k.2)->QZ H1.sp z=QZ H.sp z:=λk hk m z A=>by
  obtain⟨M,G,V,W⟩:=g.of hk;obtain⟨⟨w,rfl⟩,N,P⟩:=(g.i k hk).2.word A;rw[(Cn u o.ks (l:=M) G (w:=w) O O).1];show QZ (iI H.sp (Xr b) λ_=>Ho) _=_;rw[Va J,zB];rintro⟨hw,_⟩;have B:=K.word (.inr hw);have:=g.apart hi hk a N P B.2.1 B.2.2;subst this;exact m rfl
 have s:∀k,k∈(x.gone addr).kn↔k∈x.kn/\k.1≠addr:=λk=>by
  show k∈cO x.kn addr↔_;unfold cO;rw[zJ];simp
 refine⟨⟨?_,λk hk z A=>?_,λj=>(o.ph j).trans (g.ph j),λk hk=>g.i k ((s k).1 hk).1,?_⟩,λk hk m=>⟨(s k).2 ⟨hk,m⟩,λz A=>d k hk m z (.inr A)⟩⟩
 ·rw[p];show(cO H.live b.2.2.1).map _=(cO x.kn addr).map _;unfold cO;have e1:(H.live.filter λy=>!(y.1==b.2.2.1)).map (λe=>(e.1,e.2.2.1))=(H.live.map λe=>(e.1,e.2.2.1)).filter λq=>!(q.1==b.2.2.1):=by rw[xY];rfl
  rw[e1,g.live,xY]
  congr 1
  apply vP;intro k hk;simp only[Function.comp]
  congr 1
  rw[kU,zU,zU];constructor
  ·intro h;have:=U3 (g.sI hi) hk a h;rw[this]
  ·intro h;have:=U3 g.nd hk a h;rw[this]
 ·have:=(s k).1 hk;rw[d k this.1 this.2 z (.inl A)];exact g.can k this.1 z A
 ·show((cO x.kn addr).map _).Nodup;exact g.nd.sublist (List.filter_sublist.map _)
end Go.Ar
namespace Go.Ar
open Go Go.Vc Go.Proofs
open Go.Vc (bU dA cO)
variable {size align:Int}{U σ0 v w w':Hp}{F P Q X T:Rg}{L:dE}{H H' H1:Hw}{held:List Pc}{s0 sp:Sp}{t n:Nat}{g:Th}{gb km fm m xb:Nat}{x y:Gu}{b:B5}
def C1 (gb:Nat)(addrs ls:Sl):List Value:=[.pointer (some ⟨gb,0,none⟩),.slice addrs.a addrs.len addrs.cap,.slice ls.a ls.len ls.cap]
structure oa (σ0 U:Hp) (xb:Nat) (L:dE) (H:Hw) (held:List Pc) (s0:Sp) (P:Rg) (gb km fm:Nat) (x:Gu) (Qa Ql:Rg) (addrs:Sl) (ad:List Int) (ls:Sl) (la:List T3):Prop where
 p:GP σ0 U L H held s0 P gb km fm x
 b:bY U xb (C1 gb addrs ls)
 ra:bT addrs 1 (Wu ad) U Qa
 rl:bT ls 3 (lK la) U Ql
 rh:σ0.size<=xb/\¬Mg P gb km fm xb/\¬Qa xb/\¬Ql xb
 qa:∀b,Qa b->σ0.size<=b/\b<U.size/\¬Mg P gb km fm b
 ql:∀b,Ql b->σ0.size<=b/\b<U.size/\¬Mg P gb km fm b
 qq:∀b,Qa b->¬Ql b
variable {Qa Ql:Rg}{addrs ls:Sl}{ad:List Int}{la:List T3}
theorem oa.fr (o:oa σ0 U xb L H held s0 P gb km fm x Qa Ql addrs ad ls la)(e:aF U w):oa σ0 w xb L H held s0 P gb km fm x Qa Ql addrs ad ls la:=
 ⟨o.p.fr e,e.bV o.b id,aI.bP o.ra e,aI.bP o.rl e,o.rh,λb a=>by have h:=o.qa b a;have:=e.1;exact⟨h.1,O,h.2.2⟩,λb a=>by have h:=o.ql b a;have:=e.1;exact⟨h.1,O,h.2.2⟩,o.qq⟩
theorem Lc {P':Rg}(hg:gb<n/\km<n/\fm<n)(hP:∀b,P' b->P b\/n<=b):∀b,Mg P' gb km fm b->Mg P gb km fm b\/n<=b:=by
 rintro b (h|h)
 ·exact(hP b h).imp .inl id
 ·exact .inl (.inr h)
theorem oa.fA (o:oa σ0 U xb L H held s0 P gb km fm x Qa Ql addrs ad ls la){L':dE}{held':List Pc}{s0':Sp}{P':Rg}(e:Ext (Mg P gb km fm) U w)(p':GP σ0 w L' H' held' s0' P' gb km fm y)(hP:∀b,P' b->P b\/U.size<=b) :
 oa σ0 w xb L' H' held' s0' P' gb km fm y Qa Ql addrs ad ls la:=by
 have C:=e.1;have j:=o.b.lt;obtain⟨z,r,u,B⟩:=o.rh;have i:∀b,b<U.size->¬Mg P gb km fm b->¬Mg P' gb km fm b:=λb D A s=>by
  rcases Lc ⟨o.p.b.lt,o.p.m.lt,o.p.f.lt⟩ hP b s with h4|h4
  ·exact A h4
  ·omega
 exact⟨p',e.bV o.b r,aI.bS o.ra e λb _ a g=>(o.qa b a).2.2 g,aI.bS o.rl e λb _ a g=>(o.ql b a).2.2 g,⟨z,i _ j r,u,B⟩,λb d=>by have h:=o.qa b d;exact⟨h.1,O,i b h.2.1 h.2.2⟩,λb d=>by have h:=o.ql b d;exact⟨h.1,O,i b h.2.1 h.2.2⟩,o.qq⟩
theorem VD {c:Nat}(h:¬Mg P gb km fm c):¬P c/\c≠gb/\c≠km/\c≠fm:=⟨λa=>h (.inl a),λe=>h (.inr (.inl e)),λe=>h (.inr (.inr (.inl e))),λe=>h (.inr (.inr (.inr e)))⟩
theorem uL (p:GP σ0 U L H held s0 P gb km fm x){c:Nat}(h:Mg P gb km fm c):c<U.size:=by
 rcases h with h|rfl|rfl|rfl
 ·exact(p.pP c h).2
 ·exact p.b.lt
 ·exact p.m.lt
 ·exact p.f.lt
theorem oa.cE (o:oa σ0 U xb L H held s0 P gb km fm x Qa Ql addrs ad ls la){s':Sl}{ad':List Int}(e:Ext Qa U w)(hr:bT s' 1 (Wu ad') w λb=>Qa b\/U.size<=b/\b<w.size){K:aP}
 (hK:∀u,Ext (· = xb) w u->oa σ0 u xb L H held s0 P gb km fm x (λb=>Qa b\/U.size<=b/\b<w.size) Ql s' ad' ls la->K u):dF (Addr.add ⟨xb,0,none⟩ 1) (.slice s'.a s'.len s'.cap) w K:=by
 have J:=e.1;have G:=o.b.lt;obtain⟨B,y,s,A⟩:=o.rh;have D:=o.p.out e λb _ d=>by have h:=o.qa b d;have i:=VD h.2.2;exact⟨i.1,i.2.1,i.2.2.1,i.2.2.2,h.1⟩
 have r:=aI.bS o.rl e λb _ j E=>o.qq b E j;refine(e.bV o.b s).s1 (by simp[C1]) λu z b=>?_;have m:=z.ext;have F:=z.1;have i:=VD y;refine hK u m ⟨D.out m λb _ (d:b=xb)=>by subst d;exact⟨i.1,i.2.1,i.2.2.1,i.2.2.2,B⟩,b,aI.bS hr m λb _ g (d:b=xb)=>?_,aI.bS r m λb _ g (d:b=xb)=>A (d▸g),⟨B,y,?_,A⟩,λb d=>?_,λb d=>by have h:=o.ql b d;exact⟨h.1,O,h.2.2⟩,λb d j=>?_⟩
 ·subst d;rcases g with g|g
  ·exact s g
  ·omega
 ·rintro(g|g)
  ·exact s g
  ·omega
 ·rcases d with d|d
  ·have h:=o.qa b d;exact⟨h.1,O,h.2.2⟩
  ·have:=o.p.e.1;exact⟨O,O,λC=>by have:=uL o.p C;omega⟩
 ·rcases d with d|d
  ·exact o.qq b d j
  ·have:=(o.ql b j).2.1;omega
theorem oa.ir (o:oa σ0 U xb L H held s0 P gb km fm x Qa Ql addrs ad ls la){s':Sl}{la':List T3}{Ql':Rg}(e:Ext Ql U w)(hr:bT s' 3 (lK la') w Ql')(hQ:∀b,Ql' b->Ql b\/U.size<=b/\b<w.size){K:aP}
 (hK:∀u,Ext (· = xb) w u->oa σ0 u xb L H held s0 P gb km fm x Qa Ql' addrs ad s' la'->K u):dF (Addr.add ⟨xb,0,none⟩ 2) (.slice s'.a s'.len s'.cap) w K:=by
 have M:=e.1;have J:=o.b.lt;obtain⟨B,s,A,z⟩:=o.rh;have E:=o.p.out e λb _ d=>by have h:=o.ql b d;have g:=VD h.2.2;exact⟨g.1,g.2.1,g.2.2.1,g.2.2.2,h.1⟩
 have m:=aI.bS o.ra e λb _ F i=>o.qq b F i;refine(e.bV o.b z).s1 (by simp[C1]) λu y b=>?_;have j:=y.ext;have G:=y.1;have g:=VD s;have C:¬Ql' xb:=λh=>by
  rcases hQ xb h with h|h
  ·exact z h
  ·omega
 refine hK u j ⟨E.out j λb _ (d:b=xb)=>by subst d;exact⟨g.1,g.2.1,g.2.2.1,g.2.2.2,B⟩,b,aI.bS m j λb _ r (d:b=xb)=>A (d▸r),aI.bS hr j λb _ r (d:b=xb)=>C (d▸r),⟨B,s,A,C⟩,λb d=>by have h:=o.qa b d;exact⟨h.1,O,h.2.2⟩,λb d=>?_,λb d i=>?_⟩
 ·rcases hQ b d with d|d
  ·have h:=o.ql b d;exact⟨h.1,O,h.2.2⟩
  ·have:=o.p.e.1;exact⟨O,O,λD=>by have:=uL o.p D;omega⟩
 ·rcases hQ b i with i|i
  ·exact o.qq b d i
  ·have:=(o.qa b d).2.1;omega
inductive nE (H:Hw) (x:Gu) (d:fC) (a:Int):Hw->Gu->Int->Option Int->Bool->Prop where
 | same (e:Int):(e=0->d.kd≠20/\d.kd≠21/\d.kd≠22)->nE H x d a H x e none false
 | full {H':Hw} {e:Int}:d.kd=20->mr d.a d.b=true->e≠0->KO H d.th 0 (zA d.b+Zk d.a+16) (zA d.b) 0 H' 0 e->fR H H'->H'.live=H.live->nE H x d a H' x e none false
 | eH {b:B5} {H1:Hw}:d.kd=20->vv H x d.a d.b b H1->KO H d.th 0 (zA d.b+Zk d.a+16) (zA d.b) 0 H1 b.2.2.1 0->fR H H1->nE H x d a {H1 with sp:=jU H1.sp b} (x.eH b) 0 (some b.1) false
 | nj {b:B5} {H1:Hw} {e:Int}:(d.kd=21\/d.kd=22)->bU x.kn a=some b->lT H x d.th a true=0->KO (dP H b) d.th 1 0 0 b.2.2.1 H1 0 e->fR (dP H b) H1->nR (dP H b) d.th b.2.2.1 H1 e->nE H x d a H1 (x.gone a) 0 none true
 | wrote:d.kd=26->pK H x a 0->nE H x d a {H with sp:=ZL H.sp a d.va} x (eO H.sp a) none false
def SG (d:fC)(add:Option Int)(del:Bool)(a:Int)(la:List T3):List T3:=match add with
 | some b=>la++[(b,d.a,d.b)]
 | none=>if del then la.filter λq=>!(q.1==a)else la
end Go.Ar
namespace Go.Ar
open Go Go.Vc Go.Proofs
open Go.Vc (bU dA cO)
open Go.Bu (fo VK Hz)
variable {size align a:Int}{U σ0 v w w':Hp}{F P Q X T:Rg}{L:dE}{H H' H1:Hw}{held held' held1:List Pc}{s0 s0' s1 sp:Sp}{t n:Nat}{gb km fm m xb:Nat}{x x' y:Gu}{b:B5}{ad:List Int}{la:List T3}{d:fC}{add:Option Int}{del:Bool}{e:Int}{l:Sl}{ds:List fC}
theorem EX {s c al:Int}{i:Int}(h1:256%al=0)(h2:c%al=0):(s*256+i*c)%al=0:=by
 obtain⟨q1,e1⟩:=An h1;obtain⟨q2,e2⟩:=An h2;refine Int.emod_eq_zero_of_dvd ⟨s*q1+i*q2,?_⟩;rw[e1,e2,Int.mul_add,Int.mul_left_comm s,Int.mul_left_comm i]
theorem RA (hi1:HI H1 held1 s1)(hp:HI H held s0)(ht:H1.tb=H.tb){al base:Int}(h256:256%al=0)(me:rj H size al H1 base 0):base%al=0:=by
 rcases me with⟨h,_⟩|⟨_,hm,_,cl,hl,hcl⟩
 ·exact absurd rfl h
 have x:(base,((base,(oZ H.tb size al).1,cl,Yi H1.bZ base):Bk))∈H1.live:=by rw[hl];exact Qi (BW _)
 obtain⟨_,p,B,_,F,C,_,_⟩:=hi1.lv _ x;obtain⟨A,D,hd⟩:=hi1.wi.hf p B;simp only at F C;rcases hd with⟨q1,_,r,_,q2,_⟩|⟨j,c,q1,q2,_,q3,_⟩
 ·rw[←C,q2];have:((r.1*256:Nat):Int)=(r.1:Int)*256+0*0:=by omega
  rw[this];exact EX h256 aA
 ·rcases hcl with⟨k,rfl,hk⟩|⟨rfl,_⟩
  ·have w:j=k:=by omega
   subst w;obtain⟨J,m,_,d⟩:=Fo hk;have g:A.tb=H1.tb:=hi1.wi.tb _ A D;rw[g,ht,m]at q2;cases q2;obtain⟨z,G,a,u⟩:=q3;have b:=(hi1.wi.ga _ A D).cG _ _ _ a;have y:z=c:=by
    have:=a.1;rw[g,ht,m]at this;exact(Option.some.inj this).symm
   subst y;obtain⟨_,s,i,_,_,E,_⟩:=(Uh b).1 u;rw[←C,E];have:((at_ z s i:Nat):Int)=(s.st:Int)*256+(i:Int)*(z.size:Int):=by unfold at_;simp
   rw[this];exact EX h256 d
  ·omega
theorem WlT {al:Int}(h1:1<=al)(h2:al<=256)(hp:fo al=true):256%al=0/\(al<16->16%al=0):=by
 obtain⟨al,rfl⟩:=zc (show 0<=al by omega);rw[VK]at hp;have key:∀a:Nat,a<=256->1<=a->(a &&& (a-1)=0)->256%a=0/\(a<16->16%a=0):=by decide +kernel
 have:=key al O O (by have:=Hz (a:=al) O O;rw[hp]at this;simpa using this);exact⟨by rw[show(256:Int)=((256:Nat):Int)from rfl,←Int.natCast_emod,this.1];rfl,λh=>by rw[show(16:Int)=((16:Nat):Int)from rfl,←Int.natCast_emod,this.2 O];rfl⟩
theorem MP {al:Int}(h1:1<=al)(h2:al<=256)(hp:fo al=true):256%zA al=0/\zA al%al=0:=by
 have:=WlT h1 h2 hp;unfold zA;split
 ·exact⟨by decide,this.2 O⟩
 ·exact⟨this.1,by simp⟩
structure AL (H:Hw) (x:Gu) (ad:List Int) (la:List T3):Prop where
 g:dR H x
 n0:0<=x.no
 nl:(x.kn.length:Int)<=x.no/\(ad.length:Int)<=x.no
 lq:la.map (λa=>(a.1,a.2.1,zA a.2.2))=x.kn.map (λe=>(e.1,e.2.2.1,e.1-e.2.2.2.1))
 ok:∀a∈la,mr a.2.1 a.2.2=true/\a.1%a.2.2=0
 dq:∀a∈ad,(bU x.kn a).isSome=true\/bU x.fr a=some true
 th:1<=H.cf.threads
theorem AL.out (al:AL H x ad la)(hi:HI H held s0)(cf:iY H)(o:nE H x d a H' x' e add del):AL H' x' (ad++add.toList) (SG d add del a la)/\x'.no<=x.no+1/\∀k∈x.kn,¬(k.1<=a/\a<k.1+Zk k.2.2.1)->Kept H x H' x' k:=by
 have g:=al.g;have F:ad++(none:Option Int).toList=ad:=by simp
 cases o with
 | same e S=>rw[F];exact⟨al,O,λk j _=>⟨j,λ_ _=>rfl⟩⟩
 | full j y r E op hl=>
  rw[F];obtain⟨A,C⟩:=g.same hi op hl;exact⟨⟨A,al.n0,al.nl,al.lq,al.ok,al.dq,by rw[op.kp.2.1];exact al.th⟩,O,λk j _=>C k j⟩
 | eH j gr E op=>
  rename_i b H1;obtain⟨N,s1,D⟩:=op.hi;obtain⟨A,U,W,_,_⟩:=g.eH hi gr op D;have w:=gr.ok;unfold mr at w;rw[zF,zV]at w;obtain⟨⟨_,_,k3,k4⟩,kp⟩:=w;obtain⟨J,M⟩:=MP k3 k4 kp;have L:=RA D hi op.kp.1 J gr.me;have B:(x.eH b).no=x.no+1:=rfl;have K:(x.eH b).fr=x.fr:=rfl;refine⟨⟨A,by have:=al.n0;omega,⟨?_,?_⟩,?_,λq u=>?_,λz p=>?_,by show 1<=H1.cf.threads;rw[op.kp.2.1];exact al.th⟩,O,λk j _=>W k j⟩
  ·rw[U,B,zK];have:=al.nl.1;simp;omega
  ·rw[B,zK];have:=al.nl.2;simp;omega
  ·show(la++[(b.1,d.a,d.b)]).map _=_;rw[U,zj,zj,al.lq]
   congr 1
   simp only[zR,oW,gr.s];have:=gr.a
   congr 3
   omega
  ·rcases zM.1 (show q∈la++[(b.1,d.a,d.b)]from u)with u|u
   ·exact al.ok q u
   ·rw[zN]at u;subst u;refine⟨gr.ok,?_⟩;show b.1%d.b=0;obtain⟨q1,e1⟩:=An L;obtain⟨q2,e2⟩:=An M;refine Int.emod_eq_zero_of_dvd ⟨q2*q1+q2,?_⟩;rw[gr.a,e1,Int.mul_add,←Int.mul_assoc,←e2]
  ·have Q:(x.eH b).kn=dA x.kn b.1 b:=rfl;rw[Q,K,UW];rcases zM.1 p with p|p
   ·split
    ·exact .inl rfl
    ·exact al.dq z p
   ·simp only[rk,zN]at p;subst p;rw[zC rfl];exact .inl rfl
 | nj j hm hf E op fe=>
  rename_i b e;rw[F];have G:ZX H d.th=0:=by
   by_cases h:ZX H d.th=0
   ·exact h
   ·unfold lT at hf;rw[zC h]at hf;exact absurd hf h
  obtain⟨A,C⟩:=g.free hi hm E op fe G cf.2.1;have y:(x.gone a).kn=cO x.kn a:=rfl;have P:(x.gone a).fr=dA x.fr a true:=rfl;refine⟨⟨A,al.n0,⟨?_,al.nl.2⟩,?_,λq u=>al.ok q (zJ.1 u).1,λz p=>?_,by rw[op.kp.2.1];exact al.th⟩,by show x.no<=_;omega,λk j r=>C k j λh=>r ?_⟩
  ·rw[y];have X:=oF (λq:Int×B5=>!(q.1==a)) x.kn;have Y:=al.nl.1;show((x.kn.filter _).length:Int)<=x.no;omega
  ·show(la.filter λq=>!(q.1==a)).map _=(x.kn.filter λq=>!(q.1==a)).map _;have e1:(la.filter λq=>!(q.1==a)).map (λa=>(a.1,a.2.1,zA a.2.2))=(la.map λa=>(a.1,a.2.1,zA a.2.2)).filter λq=>!(q.1==a):=by rw[xY];rfl
   have e2:(x.kn.filter λq=>!(q.1==a)).map (λe=>(e.1,e.2.2.1,e.1-e.2.2.2.1))=(x.kn.map λe=>(e.1,e.2.2.1,e.1-e.2.2.2.1)).filter λq=>!(q.1==a):=by rw[xY];rfl
   rw[e1,e2,al.lq]
  ·rw[y,P,DD,UW];by_cases h:z=a
   ·rw[zC h,zC h];exact .inr rfl
   ·rw[zB h,zB h];exact al.dq z p
  ·have m:=g.i k j;have Z:=m.2.s;have E:=ZE (n:=k.2.2.1) O;omega
 | wrote j wd=>
  rw[F];rcases wd with⟨h,_⟩|⟨k,j,hin,h8,_⟩
  ·cases h
  ·have m:=g.i k j;obtain⟨R,V⟩:=hin;have p:a∈Xr k.2:=dR.jx m.2 R V h8;obtain⟨A,C,_⟩:=g.write hi j p (v:=d.va);refine⟨⟨A,al.n0,al.nl,al.lq,al.ok,al.dq,al.th⟩,O,λe S r=>C e S λh=>r ?_⟩;subst h;exact⟨by rw[m.1];exact R,by rw[m.1];exact V⟩
variable {Qa Ql:Rg}{addrs ls:Sl}
end Go.Ar
namespace Go.Ar
open Go Go.Vc Go.Proofs Go.RowKit Go.Maps Go.Sort Go.Shelf
open Go.Vc (bU dA cO)
open Go.Bu (lj HV Uj HO VG Ax)
variable {U σ0 v w w':Hp}{F P Q X T:Rg}{L:dE}{H H' H1:Hw}{held:List Pc}{s0 sp:Sp}{t n:Nat}{gb km fm m:Nat}{x y:Gu}{b:B5}
def GT:Nat:=Tryz.ij.f 10
def BQ:Nat:=Tryz.ij.t 23
theorem LX (m:Option Nat){R:Fv->Hp->Prop}(hR:R ⟨GT,#[],#[.pointer (some ⟨U.size,0,none⟩)]⟩ (U.push (.cells #[.map m] BQ (0,0)))) :
 ZH.c m U R:=by
 rintro w rfl;refine(callsIn_wide.1 (AnyZI.keys_in Tryz.lF Fence.wide 5 trivial rfl m w)).mono ?_;rintro e a ⟨rfl,rfl⟩;exact⟨⟨rfl,rfl,rfl,sO (by show _<(w.heap.push _).size;simp)⟩,[.func (.func GT) #[] #[.pointer (some ⟨w.heap.size,0,none⟩)]],rfl,⟨GT,#[],#[.pointer (some ⟨w.heap.size,0,none⟩)]⟩,rfl,hR⟩
theorem Sh {w:World}{c m:Nat}{B:List (Int×B5)}(hc:cell w.heap ⟨c,0,none⟩=some (.map (some m)))(hm:dM w.heap m .i64 (.ag 5) B)(hb:∀x∈B,Go.Bu.jA x.1)(hs:B.length<=1000000)(n:Nat)(hn:1<=n) :
 SeqGives Fence.wide n Tryz.prog GT #[.pointer (some ⟨c,0,none⟩)] encZ (λss=>ss.Perm (B.map (·.1))) B.length w:=by
 obtain⟨D,p,j,a⟩:=VG (P:=Tryz.prog) Tryz.lF.t26 hm hb hs;have b:c<w.heap.size:=by
  unfold cell at hc;split at hc
  ·rename_i h;exact(jT.1 h).1
  ·cases hc
 have:=AnyZI.keys_gives (ρ:=Tryz.ij) {Tryz.lF with} Fence.wide n trivial rfl hn c m B.length D w b hc p;intro l J W hW hJ hY h0;rw[a]at this;refine(this l J W hW hJ hY h0).mono ?_;rintro e W' ⟨d,ss,i,g⟩;exact⟨d,ss,i.trans j,g⟩
theorem WgF {c m:Nat}{B:List (Int×B5)}(hc:cell U ⟨c,0,none⟩=some (.map (some m)))(hm:dM U m .i64 (.ag 5) B)(hb:∀x∈B,Go.Bu.jA x.1)(hs:B.length<=1000000){R:Sl->Hp->Prop}
 (hR:∀(s:Sl) (σ':Hp) (ss:List Int),aF U σ'->ss.Perm (B.map (·.1))->ss.Pairwise (· <= ·)->lj U.size σ' s (ss.map (Value.int .i64))->R s σ') :
 Ub.c ⟨GT,#[],#[.pointer (some ⟨c,0,none⟩)]⟩ U R:=by
 rintro w rfl;have i:=Sh hc hm hb hs 2 O;have j:B.length<=maxLen:=by unfold maxLen;omega
 have u:=AnyZI.sorted_in Tryz.rH Fence.wide 5 trivial trivial trivial trivial rfl O (Ax _) (Tryz.pW.f5.enters rfl) GT #[.pointer (some ⟨c,0,none⟩)] trivial (Tryz.lF.f10.enters rfl) _ _ j O _ i;refine(callsIn_wide.1 u).mono ?_;rintro e C ⟨v,ss,rfl,z,g,r,d⟩;obtain⟨s,rfl,p⟩:=HV g;refine⟨HO d,[.slice s.a s.len s.cap],rfl,s,rfl,?_⟩;refine hR s _ (ss.mergeSort λx y=>decide (x<=y)) (Uj d) ((List.mergeSort_perm _ _).trans z) ?_ p;have:=List.pairwise_mergeSort (le:=λx y:Int=>decide (x<=y)) (λa b c A D=>by simp at *;omega) (λa b=>by simp;omega) ss;exact this.imp (λh=>by simpa using h)
structure wx (x:Gu) (es:List (Int×B5)):Prop where
 p:es.Perm x.kn
 s:es.Pairwise λa b=>a.1<b.1
def b4 (e:Int×B5):Bk:=(e.2.1,e.2.2.1,e.2.2.2.1,e.2.2.2.2.1)
theorem Tl (p:GP σ0 U L H held s0 P gb km fm x)(xi:∀e∈x.kn,e.1=e.2.1/\gL e.2)(hl:x.kn.length<=1000000){R:Sl->Hp->Prop}(hR:∀s σ' es,aF U σ'->wx x es->bT s 4 (jt (es.map b4)) σ' (λb=>U.size<=b)->R s σ'):Zj.c (aW gb) U R:=by
 refine Zj.o ?_;unfold Zj.v;have y:∀e∈x.kn,Go.Bu.jA e.1:=λe g=>by
  have h:=xi e g;have G:=h.1;have B:=h.2.z;have h3:=h.2.base;have h4:=h.2.t;have h5:=h.2.m;have h6:=h.2.s;have Z:=ZE (n:=e.2.2.1) O;unfold Go.Bu.jA;omega
 have r:=p.m.nodup;refine Ul p (cD rfl (bL (p.b.rM rfl (LX _ ?_))));have e1:aF U (U.push (.cells #[.map (some km)] BQ (0,0))):=Ext.push _ _ _;have p1:=p.fr e1;refine WgF (by unfold cell;simp) p1.m y hl λs u d e2 Q J hs=>?_;have W:=e1.trans e2;have A:=cV.uj hs;have N:d.Nodup:=Q.nodup_iff.2 r;have S:d.length=x.kn.length:=by rw[Q.length_eq];simp
 have hsl:s.len=d.length:=by have:=A.1;simp at this;omega
 let f:Int->Int×B5:=λk=>(k,(bU x.kn k).getD (0,0,0,0,0))
 have C:∀e∈x.kn,f e.1=e:=λe g=>by
  show(e.1,(bU x.kn e.1).getD (0,0,0,0,0))=e;rw[Qg r (show(e.1,e.2)∈x.kn from g)];rfl
 have hz1:U.size<u.size:=by
  have G:=e2.1;have B:(U.push (.cells #[.map (some km)] BQ (0,0))).size=U.size+1:=by simp
  omega
 refine Uo (a:=.s) (bb:=bO) (λ(out:Sl) (z:Int) w=>∃i:Nat,z=i/\i<=d.length/\aF u w/\bT out 4 (jt (((d.take i).map f).map b4)) w (λb=>u.size<=b)) (λ_ z _=>d.length-z.toNat) ⟨0,rfl,O,Ext.refl _ _,⟨by simp[jt],.inl ⟨rfl,rfl⟩⟩⟩ ?_;rintro(out:Sl) (z:Int) w ⟨i,rfl,hil,ew,hr⟩;have Z:=p1.fr (e2.trans ew);refine cN (λhlt=>?_) λhge=>?_
 ·have hx:d[i]?=some (d[i]' O):=cW _;have hol:out.len=i:=by have:=hr.1;rw[BI]at this;simp at this;omega
  have K:(d[i]' O)∈x.kn.map (·.1):=Q.mem_iff.1 (kz _);obtain⟨e,g,D⟩:=zE.1 K;have Y:f (d[i]' O)=e:=by rw[←D];exact C e g
  refine(aH.bP (aH.cut A) ew).ma hx (bL (Z.b.rM rfl ⟨x.kn,Z.m,?_⟩));have M:bU x.kn (d[i]' O)=some e.2:=by rw[←D];exact Qg r (show(e.1,e.2)∈x.kn from g)
  rw[M];refine hr.push (F:=λb=>u.size<=b) (vs:=jZ (b4 e)) (λb E=>by have:=ew.1;omega) rfl rfl (by simp[jZ,dX]) O O λs' w' ab V X=>?_;have e3:aF u w':=Ext.fresh ew V λb E=>E;refine cT (m:=i+1) O O ⟨⟨i+1,rfl,O,e3,?_⟩,O⟩;have:jt (((d.take (i+1)).map f).map b4)=jt (((d.take i).map f).map b4)++jZ (b4 e):=by
   unfold jt;rw[kx,hx,zj,zj,List.flatMap_append];simp only[rk,zR,oW,pt,List.flatMap_nil,kC,Y]
  rw[this];exact X
 ·have aa:i=d.length:=by omega
  subst aa;rw[lY]at hr;have j:(d.map f).Perm x.kn:=by
   have G:=Q.map f;rw[lI]at G;have B:x.kn.map (f∘λe=>e.1)=x.kn:=by
    conv=>rhs;rw[←vd x.kn]
    exact kr λe g=>C e g
   rwa [B]at G
  refine hR out w (d.map f) (W.trans ew) ⟨j,?_⟩ (aI.mono hr λb _ E=>by
   show U.size<=b;have E:u.size<=b:=E;omega)
  rw[se];exact(J.and N).imp λ{a b} ⟨G,B⟩=>by
   have h3:a≠b:=B;show a<b;omega
end Go.Ar
namespace Go.Proofs
open Go.Vc
set_option maxRecDepth 100000
def WH.h:Hn:=.q .o1 (.q (.q .o3 .aK) (.q .o7 (.q (.q .o6 (.k (.loop [(20,.I)] (.q .o1 (.q (.c .l .l) (.q (.k (.q .o6 .o6)) .o2)))))) .aL)))
def WH.v (a:R2)(b:Hp)(c:Sl->Hp->Prop):Prop:=Wm.c a b λd e=>If (!d) (c ⟨none,0,0⟩ e) (bF a 3 e λg=>Mk ((g.len:Nat):Int) ((g.len:Nat):Int) 8 3 [.I 0] e λh i=>bF a 3 i λk=>XS [bO] (λl=>l 0 i) λm (n:Int) o=>If (n<((k.len:Nat):Int)) (Ix k.a k.len n 2 λp=>aQ p 0 o λq=>aQ p 1 o λr=>aV #[.I 0,.I 0] 101 o λs t=>aR s 0 (.I q) t λu=>aR s 1 (.I r) u λv=>aQ s 0 v λw=>Ix h.a h.len n 1 λx=>dF x (.I w) v λy=>bM (n+1) λz=>m z y) (c h o))
theorem WH.o {a b c}(d:WH.v a b c):WH.c a b c:=Wa Tryz.func16 (x:=WH.h) (R0 d)
def WB.h:Hn:=.q .o1 (.q (.q .o3 .aK) (.q .o1 (.q (.q .o6 (.k (.loop [(3,.I),(14,.I)] (.q .o1 (.q (.c .l .l) (.q (.k (.q .o4 .o5)) .o2)))))) .aL)))
def WB.v (a:R2)(b:Hp)(c:aN):Prop:=Wm.c a b λd e=>If (!d) (c 0 e) (bF a 3 e λg=>XS [bO,bO] (λh=>h 0 0 e) λi (j:Int) (k:Int) l=>If (k<((g.len:Nat):Int)) (Ix g.a g.len k 2 λm=>aQ m 0 l λn=>aQ m 1 l λo=>aV #[.I 0,.I 0] 101 l λp q=>aR p 0 (.I n) q λr=>aR p 1 (.I o) r λs=>aQ p 1 s λt=>bM (j+t) λu=>bM (k+1) λv=>i u v s) (c j l))
theorem WB.o {a b c}(d:WB.v a b c):WB.c a b c:=Wa Tryz.func18 (x:=WB.h) (R0 d)
def Wp.h:Hn:=.q .o2 (.q (.q .o3 .aJ) (.q (.o 12) .l))
def Wp.v (a:R2)(b c d:Int)(e:Hp)(f:Int->Int->Hp->Prop):Prop:=Wm.c a e λg h=>If (!g) (f 0 5 h) (bG a 0 h λj=>Yc.c j b c d h λk l m=>f k l m)
theorem Wp.o {a b c d e f}(g:Wp.v a b c d e f):Wp.c a b c d e f:=Wa Tryz.func21 (x:=Wp.h) (R0 g)
def Wy.h:Hn:=.q .o1 (.q (.q .o3 .aK) (.q .o5 .l))
def Wy.v (a:R2)(b:Hp)(c:Option Addr->Hp->Prop):Prop:=Wm.c a b λd e=>If (!d) (c none e) (bG a 0 e λg=>c g e)
theorem Wy.o {a b c}(d:Wy.v a b c):Wy.c a b c:=Wa Tryz.func23 (x:=Wy.h) (R0 d)
def WD.h:Hn:=.q .o1 (.q (.q .o3 .aK) (.q .o7 (.q .o6 .aL)))
def WD.v (a:R2)(b:Hp)(c:Sl->Hp->Prop):Prop:=Wm.c a b λd e=>If (!d) (c ⟨none,0,0⟩ e) (bF a 4 e λg=>Mk ((g.len:Nat):Int) ((g.len:Nat):Int) 16 62 [.I 0,.I 0] e λh i=>bF a 4 i λk=>sW h 2 k i λl m=>c h m)
theorem WD.o {a b c}(d:WD.v a b c):WD.c a b c:=Wa Tryz.func27 (x:=WD.h) (R0 d)
def Wx.h:Hn:=.q .o2 (.q (.q .o4 (.q .o2 (.c (.q .o3 .l) .l))) (.q .o6 (.q (.k (.loop [] (.q (.q .o6 (.c .l .l)) (.k .o3)))) (.q .o3 .l))))
def Wx.v (a:R2)(b:Int)(c:Hp)(d:Int->Int->Hp->Prop):Prop:=WL.c a b c λe f=>If (e != 0) (d 0 e f) (bF a 3 f λh=>XS [] (λi=>i f) λj k=>bF a 3 k λm=>If (((m.len:Nat):Int)>0) (WE.c a b k λn=>j n) (d ((h.len:Nat):Int) 0 k))
theorem Wx.o {a b c d}(e:Wx.v a b c d):Wx.c a b c d:=Wa Tryz.func30 (x:=Wx.h) (R0 e)
def Wj.h:Hn:=.q .o1 (.q (.q .o4 (.q .o2 .aJ)) (.q (.q .o3 .aK) (.q .o9 (.q (.q .o2 (.c (.q .o8 .l) .l)) (.q (.o 11) (.q (.q .o2 .aJ) (.q (.q .o3 .aK) (.q (.q .o4 (.k (.loop [(56,.I)] (.q .o1 (.q (.c .l .l) (.q (.k (.q .o3 .o7)) .o2)))))) (.q (.cU (.held true [13] (.tk [0,1,2,3,4,5,6,7,8] (.all [(9,.all [(10,.take 11 (.take 12 (.all [(13,.done)])))])])))) (.q (.k (.loop [] (.q (.q (.cU (.gK true [] [(99,.one .b)] (.take 0 (.take 1 (.take 2 (.take 3 (.take 4 (.take 5 (.take 6 (.take 7 (.take 8 (.take 9 (.take 10 (.split 91 (.take 11 (.take 12 (.take 13 (.take 14 (.take 15 (.take 16 (.take 17 (.take 18 (.done))))))))) (.take 11 (.take 13 (.take 14 (.take 15 (.take 16 (.all [(12,.take 17 (.take 18 (.done)))])))))))))))))))))))) (.c .l .l)) (.k .o3)))) .aM))))))))))
def Wj.v (a:R2)(b c:Int)(d:Hp)(e:aN):Prop:=WL.c a b d λf g=>If (f != 0) (e f g) (WT.c a c g λh i=>If h (e 9 i) (WC.c a c i λj k l m n o=>aV #[.I 0,.I 0,.I 0,.I 0] 48 o λp q=>aR p 0 (.I j) q λr=>aR p 1 (.I k) r λs=>aR p 2 (.I l) s λt=>aR p 3 (.I m) t λu=>If (!n) (bG a 0 u λw=>Y4.c w b c u λx y=>e x y) (bG a 0 u λaa=>X7.c aa c u λab ac ad=>If (ac != 0) (e ac ad) (If (((ab.len:Nat):Int)>0) (e 10 ad) (aQ p 0 ad λae=>aQ p 1 ad λaf=>aQ p 2 ad λag=>aQ p 3 ad λah=>XZ.c ae af ag ah ad λai aj=>XS [bO] (λak=>ak 0 aj) λal (am:Int) an=>If (am<((ai.len:Nat):Int)) (Ix ai.a ai.len am 1 λao=>bN ao an λap=>bG a 0 an λar=>XH.c ar an λau av=>Xy.c au ap (-1234567) av λaw ax=>bM (am+1) λay=>al ay ax) (dS an λaz=>bW a λa0=>aT az a0 3 λa1=>aS az p 1 λa2=>aV #[.I c,.I a2] 101 an λa3 a4=>And (az a4) <| App a1 2 16 101 [.I 0,.I 0] ⟨some a3,1,1⟩ a4 λa5 a6=>And (az a6) <| bW a λa7=>aR a7 3 (.slice a5.a a5.len a5.cap) a6 λa8=>XS [] (λa9=>a9 a8) λba bb=>Jn [.b] (λ(bc:Bool) bd=>If bc (WE.c a b bd λbe=>ba be) (e 0 bd)) λbf=>dS bb λbg=>bW a λbh=>aT bg bh 3 λbi=>bW a λbj=>aS bg bj 1 λbk=>If (((bi.len:Nat):Int)>bk) (bf true bb) (bW a λbl=>
 aS bg bl 2 λbm=>WB.c a bb λbn bo=>And (bg bo) <| bf (decide (bn>bm)) bo)))))))
theorem Wj.o {a b c d e}(f:Wj.v a b c d e):Wj.c a b c d e:=Wa Tryz.func34 (x:=Wj.h) (R0 f)
def Zv.h:Hn:=.q .o2 (.q (.q (.cU (.seq [.op,.op,.op,.op,.cY false 2 [.op,.op],.op,.cY false 2 [.op,.op],.op,.cY false 2 [.op,.op],.op,.cY false 2 [.op,.op]])) .aJ) (.q .o7 .l))
def Zv.v (a:R2)(b c:Int)(d:Hp)(e:Option Addr->Int->Hp->Prop):Prop:=XH.c a d λf g=>bX (λh i=>bX (λj k=>bX (λl m=>bX (λn o=>If n (e none 1 o) (aV #[.pointer a,.I b,.I c,.slice none 0 0,.slice none 0 0] 71 o λp q=>e (some p) 0 q)) λr=>If l (r true m) (r (decide (c>16384)) m)) λs=>If j (s true k) (s (decide (c<0)) k)) λt=>If h (t true i) (t (decide (b>64)) i)) λu=>If f.isNone (u true g) (u (decide (b<0)) g)
theorem Zv.o {a b c d e}(f:Zv.v a b c d e):Zv.c a b c d e:=Wa Tryz.func36 (x:=Zv.h) (R0 f)
def WG.h:Hn:=.q .o2 (.q (.q .o3 .aJ) (.q (.q .o3 .aJ) (.q .gA .l)))
def WG.v (a:R2)(b:Int)(c:Hp)(d:Int->Int->Hp->Prop):Prop:=Wm.c a c λe f=>If (!e) (d 0 5 f) (WM.c a b f λg h=>If g (d 0 9 h) (bG a 0 h λj=>Za.c j b h λk l m=>d k l m))
theorem WG.o {a b c d}(e:WG.v a b c d):WG.c a b c d:=Wa Tryz.func37 (x:=WG.h) (R0 e)
def WQ.h:Hn:=.q .o1 (.q (.q .o3 .aK) (.q (.q .o3 .aK) (.q .o8 .l)))
def WQ.v (a:R2)(b c:Int)(d:Hp)(e:aN):Prop:=Wm.c a d λf g=>If (!f) (e 5 g) (WM.c a b g λh i=>If h (e 9 i) (bG a 0 i λk=>YE.c k b c i λl m=>e l m))
theorem WQ.o {a b c d e}(f:WQ.v a b c d e):WQ.c a b c d e:=Wa Tryz.func40 (x:=WQ.h) (R0 f)
def Wm.h:Hn:=.q .o1 (.q (.cU (.seq [.op,.op,.op,.cY true 5 (RI.ops 5),.op])) .l)
def Wm.v (a:R2)(b:Hp)(c:aO):Prop:=bX (λd e=>c d e) λf=>If (!a.isNone) (bG a 0 b λh=>f (!h.isNone) b) (f false b)
theorem Wm.o {a b c}(d:Wm.v a b c):Wm.c a b c:=Wa Tryz.func55 (x:=Wm.h) (R0 d)
def WL.h:Hn:=.q .o1 (.q (.q .o3 .aK) (.q .o6 (.q (.q (.cU (.seq [.op,.op,.op,.cY false 5 (RI.ops 5)])) .aK) (.q (.q .o4 .aK) .aM))))
def WL.v (a:R2)(b:Int)(c:Hp)(d:aN):Prop:=Wm.c a c λe f=>If (!e) (d 5 f) (bG a 0 f λh=>XH.c h f λi j=>bX (λk l=>If k (d 1 l) (YW.c i b l λm n=>If (!(m.toList==(ByteArray.mk #[]).toList)) (d 5 n) (d 0 n))) λo=>If (b<0) (o true j) (XY.c i j λp q r s t u=>o (decide (b≥r)) u))
theorem WL.o {a b c d}(e:WL.v a b c d):WL.c a b c d:=Wa Tryz.func63 (x:=WL.h) (R0 e)
def WE.h:Hn:=.q .o8 (.q .gA (.q .gA (.q (.q .o2 (.c .l .l)) (.q (.cU (.held true [6] (.tk [0,1,2,3,4,5] (.all [(6,.tk [7,8,9,10,11] (.done))])))) (.q (.q .o2 (.c .l .l)) (.q (.q .o4 (.k (.loop [(7,.one .s),(52,.I)] (.q .o1 (.q (.c .l .l) (.q (.k (.q .o3 (.q (.o 12) (.q (.cU (.seq [.op,.op,.op,.cY false 2 [.op,.op]])) (.c .o5 .l))))) .o2)))))) (.kE [] (.q .o3 (.c (.cU (.held true [14] (.tk [0,1,2,3,4,5,6,7] (.all [(8,.take 9 (.all [(10,.all [(11,.take 12 (.take 13 (.all [(14,.done)])))])]))])))) .l)) (.cU (.tail 7 (RI.ops 7) [.op])))))))))
def WE.v (a:R2)(b:Int)(c:Hp)(d:aP):Prop:=bF a 3 c λf=>Ix f.a f.len 0 2 λg=>aQ g 0 c λh=>aQ g 1 c λi=>aV #[.I 0,.I 0] 101 c λj k=>aR j 0 (.I h) k λl=>aR j 1 (.I i) l λm=>bF a 3 m λo=>fF o 2 1 (o.len:Nat) (o.cap:Nat) λp=>Wh.c p m λq r=>bW a λs=>aR s 3 (.slice q.a q.len q.cap) r λt=>aQ j 0 t λu=>WC.c a u t λv w x y z aa=>aV #[.I 0,.I 0,.I 0,.I 0] 48 aa λab ac=>aR ab 0 (.I v) ac λad=>aR ab 1 (.I w) ad λae=>aR ab 2 (.I x) ae λaf=>aR ab 3 (.I y) af λag=>If (!z) (d ag) (dS ag λah=>bW a λai=>aU ah ai 0 λaj=>aS ah j 0 λak=>X7.c aj ak ag λal am an=>If (am != 0) (d an) (aQ ab 0 an λao=>aQ ab 1 an λap=>aQ ab 2 an λaq=>aQ ab 3 an λar=>XZ.c ao ap aq ar an λau av=>XS [.s,bO] (λaw=>aw al 0 av) λax (ay:Sl) (az:Int) a0=>If (az<((au.len:Nat):Int)) (Ix au.a au.len az 1 λa1=>bN a1 a0 λa2=>bG a 0 a0 λa4=>XH.c a4 a0 λa5 a6=>Yd.c a5 a2 a6 λa7 a8 a9=>bX (λba bb=>If ba (aV #[.I a2] 3 bb λbc bd=>App ay 1 8 3 [.I 0] ⟨some bc,1,1⟩ bd λbe bf=>bM (az+1) λbg=>ax be bg bf) (bM (az+1) λbh=>ax ay bh bb)) λbi=>If (a8 != 0) (bi true a9) (bi (a7 != (-1234567)) a9)) (Jn [] (λbj=>bG a 0 bj λbl=>aQ j 0 bj λbm=>
 Zm.c bl b bm bj λbn bo=>d bo) λbp=>If (((ay.len:Nat):Int)>0) (dS a0 λbq=>bW a λbr=>aT bq br 4 λbs=>aS bq j 0 λbt=>W7.c ay a0 λbu bv=>And (bq bv) <| aV #[.I bt,.I bu] 62 bv λbw bx=>And (bq bx) <| App bs 2 16 62 [.I 0,.I 0] ⟨some bw,1,1⟩ bx λbz b0=>And (bq b0) <| bW a λb1=>aR b1 4 (.slice bz.a bz.len bz.cap) b0 λb2=>bp b2) (bp a0))))
theorem WE.o {a b c d}(e:WE.v a b c d):WE.c a b c d:=Wa Tryz.func64 (x:=WE.h) (R0 e)
def WT.h:Hn:=.q .o2 (.q .o7 .l)
def WT.v (a:R2)(b:Int)(c:Hp)(d:aO):Prop:=aV #[.I b] 3 c λe f=>bF a 3 f λh=>Wb.c h ⟨115,#[],#[.pointer (some e)]⟩ f λi j=>d i j
theorem WT.o {a b c d}(e:WT.v a b c d):WT.c a b c d:=Wa Tryz.func68 (x:=WT.h) (R0 e)
def WC.h:Hn:=.q .o2 (.q .o6 (.q .o8 (.q (.q .o2 (.c (.q .o3 .l) .l)) (.q .o6 .l))))
def WC.v (a:R2)(b:Int)(c:Hp)(d:Int->Int->Int->Int->Bool->Hp->Prop):Prop:=aV #[.I 0,.I 0,.I 0,.I 0] 48 c λe f=>bG a 0 f λh=>Zj.c h f λi j=>Wf.c i b ⟨117,#[],#[]⟩ j λk l m=>If (!l) (aR e 0 (.I 0) m λn=>aR e 1 (.I 0) n λo=>aR e 2 (.I 0) o λp=>aR e 3 (.I 0) p λq=>aQ e 0 q λr=>aQ e 1 q λs=>aQ e 2 q λt=>aQ e 3 q λu=>d r s t u false q) (Ix i.a i.len k 4 λv=>aQ v 0 m λw=>aQ v 1 m λx=>aQ v 2 m λy=>aQ v 3 m λz=>aR e 0 (.I w) m λaa=>aR e 1 (.I x) aa λab=>aR e 2 (.I y) ab λac=>aR e 3 (.I z) ac λad=>aQ e 0 ad λae=>aQ e 1 ad λaf=>aQ e 2 ad λag=>aQ e 3 ad λah=>d ae af ag ah true ad)
theorem WC.o {a b c d}(e:WC.v a b c d):WC.c a b c d:=Wa Tryz.func69 (x:=WC.h) (R0 e)
def XZ.h:Hn:=.q .o2 (.q .o1 (.q (.q .o1 (.k (.loop [(3,.one .s),(4,.I)] (.q (.q .o4 (.c .l .l)) (.q (.k .o8) .o3))))) .aL))
def XZ.v (a b c d:Int)(e:Hp)(f:Sl->Hp->Prop):Prop:=aV #[.I a,.I b,.I c,.I d] 48 e λg h=>XS [.s,bO] (λi=>i ⟨none,0,0⟩ 0 h) λj (k:Sl) (l:Int) m=>aQ g 1 m λn=>If (l<n) (aQ g 0 m λo=>bM (o+l) λp=>aV #[.I p] 3 m λq r=>App k 1 8 3 [.I 0] ⟨some q,1,1⟩ r λs t=>bM (l+8) λu=>j s u t) (f k m)
theorem XZ.o {a b c d e f}(g:XZ.v a b c d e f):XZ.c a b c d e f:=Wa Tryz.func72 (x:=XZ.h) (R0 g)
def WM.h:Hn:=.q .o3 (.q .o7 .l)
def WM.v (a:R2)(b:Int)(c:Hp)(d:aO):Prop:=aV #[.pointer a] 33 c λe f=>aV #[.I b] 3 f λg h=>fX e h λi=>bF i 3 h λk=>Wb.c k ⟨121,#[],#[.pointer (some e),.pointer (some g)]⟩ h λl m=>d l m
theorem WM.o {a b c d}(e:WM.v a b c d):WM.c a b c d:=Wa Tryz.func75 (x:=WM.h) (R0 e)
def W5.h:Hn:=.q .o2 (.q .o5 .l)
def W5.v (a b:Int)(c:Addr)(d:Hp)(e:aO):Prop:=aV #[.I a,.I b] 101 d λf g=>aQ f 0 g λh=>bN c g λi=>e (h==i) g
theorem W5.o {a b c d e}(f:W5.v a b c d e):W5.c a b c d e:=Wa Tryz.func115 (x:=W5.h) (R0 f)
def WX.h:Hn:=.q .o2 (.q .o5 .l)
def WX.v (a b c d e:Int)(f:Hp)(g:aN):Prop:=aV #[.I a,.I b,.I c,.I d] 48 f λh i=>aQ h 0 i λj=>bM (j-e) λk=>g k i
theorem WX.o {a b c d e f g}(h:WX.v a b c d e f g):WX.c a b c d e f g:=Wa Tryz.func117 (x:=WX.h) (R0 h)
def WY.h:Hn:=.q .o2 (.q .gA (.q (.cU (.gK true [] [(4,.one .b)] (.take 0 (.take 1 (.split 15 (.take 2 (.take 4 (.all [(3,.all [(5,.take 6 (.take 7 (.done)))])]))) (.take 2 (.take 3 (.take 4 (.take 5 (.take 6 (.take 7 (.done)))))))))))) .l))
def WY.v (a b:Int)(c d:Addr)(e:Hp)(f:aO):Prop:=aV #[.I a,.I b] 101 e λg h=>fX c h λi=>aQ g 0 h λj=>WC.c i j h λk l m n o p=>aV #[.I 0,.I 0,.I 0,.I 0] 48 p λq r=>aR q 0 (.I k) r λs=>aR q 1 (.I l) s λt=>aR q 2 (.I m) t λu=>aR q 3 (.I n) u λv=>Jn [.b] (λ(w:Bool) x=>f w x) λy=>dS v λz=>If o (aS z q 0 λaa=>aS z q 1 λab=>aS z q 2 λac=>aS z q 3 λad=>gC z bO d λ(ae:Int)=>XZ.c aa ab ac ad v λaf ag=>And (z ag) <| Ww.c af ae ag λah ai=>And (z ai) <| y ah ai) (y false v)
theorem WY.o {a b c d e f}(g:WY.v a b c d e f):WY.c a b c d e f:=Wa Tryz.func121 (x:=WY.h) (R0 g)
end Go.Proofs
namespace Go.Ar
open Go Go.Vc Go.Proofs
open Go.Vc (bU dA cO)
variable {U σ0 v w w':Hp}{F P Q X T:Rg}{L:dE}{H H' H1:Hw}{held:List Pc}{s0 sp:Sp}{t n:Nat}{gb km fm m:Nat}{x y:Gu}{b:B5}
abbrev P2:=Int×Int
def k8 (e:P2):List Value:=[.int .i64 e.1,.int .i64 e.2]
def gR (l:List P2):List Value:=l.flatMap k8
theorem UM (l:List P2):(gR l).length=l.length*2:=by
 induction l with
 | nil=>rfl
 | cons e l ih=>simp only[gR,pt,zK,zS,k8,lg]at *;omega
theorem BL:∀{l:List P2} {i:Nat} {e:P2},l[i]?=some e->∀{d:Nat},d<2->(gR l)[2*i+d]?=(k8 e)[d]?
 | [],_,_,h,_,_=>by simp at h
 | y::l,0,e,h,d,hd=>by
  simp at h;subst h;have e1:gR (y::l)=k8 y++gR l:=by simp[gR]
  have a:(k8 y).length=2:=rfl;rw[e1,zd O];congr 1;omega
 | y::l,i+1,e,h,d,hd=>by
  have e1:gR (y::l)=k8 y++gR l:=by simp[gR]
  have a:(k8 y).length=2:=rfl;rw[e1,zp O,a,show 2*(i+1)+d-2=2*i+d by omega];exact BL (by simpa using h) hd
theorem Ls:∀(l:List P2) (n:Nat),gR (l.drop n)=(gR l).drop (n*2)
 | l,0=>by simp
 | [],n+1=>by simp[gR]
 | y::l,n+1=>by
  have e1:gR (y::l)=k8 y++gR l:=by simp[gR]
  have a:(k8 y).length=2:=rfl;rw[vX,e1,Ls l n,List.drop_append,Cp (l:=k8 y) O,a,show(n+1)*2-2=n*2 by omega,tu]
theorem Lw:∀(l:List P2),∀v∈gR l,dX v=true:=by
 intro l v a;simp only[gR,List.mem_flatMap,k8]at a;obtain⟨e,_,a⟩:=a;simp at a;rcases a with rfl|rfl<;>rfl
structure Qu where
 bl:Int
 by':Int
 q:List P2
 rs:List P2
def iA (l:List P2):Int:=(l.map (·.2)).sum
structure oR (q:Qu):Prop where
 bl:0<=q.bl/\q.bl<=64
 by':0<=q.by'/\q.by'<=16384
 ql:q.q.length<=66
 qs:∀e∈q.q,1<=e.2/\e.2<=1024
 rl:q.rs.length<=10000
def Hj (q:Qu):Bool:=decide ((q.q.length:Int)>q.bl)||decide (iA q.q>q.by')
theorem θ (e:P2)(l:List P2):iA (e::l)=e.2+iA l:=by simp[iA]
theorem OX (l:List P2)(e:P2):iA (l++[e])=iA l+e.2:=by simp[iA]
theorem Ω {l:List P2}(h:∀e∈l,1<=e.2/\e.2<=1024):0<=iA l/\iA l<=l.length*1024:=by
 induction l with
 | nil=>simp[iA]
 | cons e l ih=>
  have b:=h e mJ;have d:=ih λe a=>h e (mj _ a);rw[θ,zS];omega
def qF (sp:Sp)(b:B5):List Int:=(Xr b).filter λz=>eO sp z != 0||QZ sp z != Ho
def Kw (H:Hw)(b:B5):List Int:=QV H.sp b++qF H.sp b
def lz:List Int->Int
 | []=>0
 | a::l=>l.foldl (λm z=>if z<m then z else m) a
inductive gN (thread:Int) (H:Hw) (x:Gu) (q:Qu):Hw->Gu->Qu->Prop where
 | none {e:P2} {r:List P2}:q.q=e::r->(bU x.kn e.1=none\/kV H x e.1≠0)->gN thread H x q H x {q with q:=r}
 | stay {e:P2} {r:List P2} {b:B5}:q.q=e::r->bU x.kn e.1=some b->kV H x e.1=0->lT H x thread e.1 false≠0->gN thread H x q H x ⟨q.bl,q.by',r,if Kw H b=[]then q.rs else q.rs++[(e.1,lz (Kw H b))]⟩
 | free {e:P2} {r:List P2} {b:B5} {H1:Hw} {er:Int}:q.q=e::r->bU x.kn e.1=some b->kV H x e.1=0->lT H x thread e.1 false=0->KO (dP H b) thread 1 0 0 b.2.2.1 H1 0 er->fR (dP H b) H1->nR (dP H b) thread b.2.2.1 H1 er →
  gN thread H x q H1 (x.gone e.1) ⟨q.bl,q.by',r,if Kw H b=[]then q.rs else q.rs++[(e.1,lz (Kw H b))]⟩
inductive iH (thread:Int):Hw->Gu->Qu->Hw->Gu->Qu->Prop where
 | stop {H:Hw} {x:Gu} {q:Qu}:Hj q=false->iH thread H x q H x q
 | next {H H1 H':Hw} {x x1 x':Gu} {q q1 q':Qu}:Hj q=true->gN thread H x q H1 x1 q1->iH thread H1 x1 q1 H' x' q'->iH thread H x q H' x' q'
inductive iQ (thread:Int):Hw->Gu->Qu->Hw->Gu->Qu->Prop where
 | stop {H:Hw} {x:Gu} {q:Qu}:q.q=[]->iQ thread H x q H x q
 | next {H H1 H':Hw} {x x1 x':Gu} {q q1 q':Qu}:gN thread H x q H1 x1 q1->iQ thread H1 x1 q1 H' x' q'->iQ thread H x q H' x' q'
def vN (gb:Nat)(q:Qu)(qs rs:Sl):List Value:=[.pointer (some ⟨gb,0,none⟩),.int .i64 q.bl,.int .i64 q.by',.slice qs.a qs.len qs.cap,.slice rs.a rs.len rs.cap]
def kv (P:Rg)(gb km fm qb:Nat)(Qq Qr:Rg):Rg:=λb=>Mg P gb km fm b\/b=qb\/Qq b\/Qr b
structure QP (σ0 U:Hp) (L:dE) (H:Hw) (held:List Pc) (s0:Sp) (P:Rg) (gb km fm:Nat) (x:Gu) (qb:Nat) (Qq Qr:Rg) (qs rs:Sl) (q:Qu):Prop where
 p:GP σ0 U L H held s0 P gb km fm x
 b:bY U qb (vN gb q qs rs)
 rq:bT qs 2 (gR q.q) U Qq
 rr:bT rs 2 (gR q.rs) U Qr
 sB:σ0.size<=qb/\¬Mg P gb km fm qb/\¬Qq qb/\¬Qr qb
 qq:∀b,Qq b->σ0.size<=b/\b<U.size/\¬Mg P gb km fm b
 qr:∀b,Qr b->σ0.size<=b/\b<U.size/\¬Mg P gb km fm b
 dj:∀b,Qq b->¬Qr b
 i:oR q
variable {qb:Nat}{Qq Qr:Rg}{qs rs:Sl}{q:Qu}
theorem QP.fr (o:QP σ0 U L H held s0 P gb km fm x qb Qq Qr qs rs q)(e:aF U w):QP σ0 w L H held s0 P gb km fm x qb Qq Qr qs rs q:=
 ⟨o.p.fr e,e.bV o.b id,aI.bP o.rq e,aI.bP o.rr e,o.sB,λb a=>by have h:=o.qq b a;have:=e.1;exact⟨h.1,O,h.2.2⟩,λb a=>by have h:=o.qr b a;have:=e.1;exact⟨h.1,O,h.2.2⟩,o.dj,o.i⟩
theorem QP.fA (o:QP σ0 U L H held s0 P gb km fm x qb Qq Qr qs rs q){L':dE}{held':List Pc}{s0':Sp}{P':Rg}(e:Ext (Mg P gb km fm) U w)(p':GP σ0 w L' H' held' s0' P' gb km fm y)(hP:∀b,P' b->P b\/U.size<=b) :
 QP σ0 w L' H' held' s0' P' gb km fm y qb Qq Qr qs rs q:=by
 have D:=e.1;have r:=o.b.lt;obtain⟨A,s,z,C⟩:=o.sB;have j:∀b,b<U.size->¬Mg P gb km fm b->¬Mg P' gb km fm b:=λb E B u=>by
  rcases Lc ⟨o.p.b.lt,o.p.m.lt,o.p.f.lt⟩ hP b u with h4|h4
  ·exact B h4
  ·omega
 exact⟨p',e.bV o.b s,aI.bS o.rq e λb _ a g=>(o.qq b a).2.2 g,aI.bS o.rr e λb _ a g=>(o.qr b a).2.2 g,⟨A,j _ r s,z,C⟩,λb d=>by have h:=o.qq b d;exact⟨h.1,O,j b h.2.1 h.2.2⟩,λb d=>by have h:=o.qr b d;exact⟨h.1,O,j b h.2.1 h.2.2⟩,o.dj,o.i⟩
theorem QP.out (o:QP σ0 U L H held s0 P gb km fm x qb Qq Qr qs rs q)(e:Ext T U w)(hT:∀b,b<U.size->T b->¬kv P gb km fm qb Qq Qr b/\σ0.size<=b):QP σ0 w L H held s0 P gb km fm x qb Qq Qr qs rs q:=by
 have s:=e.1;have m:=o.b.lt;refine⟨o.p.out e λb a d=>?_,e.bV o.b λd=>(hT qb m d).1 (.inr (.inl rfl)),aI.bS o.rq e λb a j d=>(hT b a d).1 (.inr (.inr (.inl j))),aI.bS o.rr e λb a j d=>(hT b a d).1 (.inr (.inr (.inr j))),o.sB,λb a=>by have h:=o.qq b a;exact⟨h.1,O,h.2.2⟩,λb a=>by have h:=o.qr b a;exact⟨h.1,O,h.2.2⟩,o.dj,o.i⟩;have h:=hT b a d;have g:=VD λr=>h.1 (.inl r);exact⟨g.1,g.2.1,g.2.2.1,g.2.2.2,h.2⟩
theorem QP.wC (o:QP σ0 U L H held s0 P gb km fm x qb Qq Qr qs rs q){s':Sl}{l':List P2}{Q':Rg}(e:Ext Qq U w)(hr:bT s' 2 (gR l') w Q')(hQ:∀b,Q' b->Qq b\/U.size<=b/\b<w.size)(hi:oR {q with q:=l'}){K:aP}
 (hK:∀u,Ext (· = qb) w u->QP σ0 u L H held s0 P gb km fm x qb Q' Qr s' rs {q with q:=l'}->K u):dF (Addr.add ⟨qb,0,none⟩ 3) (.slice s'.a s'.len s'.cap) w K:=by
 have M:=e.1;have J:=o.b.lt;obtain⟨B,s,A,z⟩:=o.sB;have E:=o.p.out e λb _ d=>by have h:=o.qq b d;have g:=VD h.2.2;exact⟨g.1,g.2.1,g.2.2.1,g.2.2.2,h.1⟩
 have m:=aI.bS o.rr e λb _ i F=>o.dj b F i;refine(e.bV o.b A).s1 (by simp[vN]) λu y b=>?_;have j:=y.ext;have G:=y.1;have g:=VD s;have C:¬Q' qb:=λh=>by
  rcases hQ qb h with h|h
  ·exact A h
  ·omega
 refine hK u j ⟨E.out j λb _ (d:b=qb)=>by subst d;exact⟨g.1,g.2.1,g.2.2.1,g.2.2.2,B⟩,b,aI.bS hr j λb _ r (d:b=qb)=>C (d▸r),aI.bS m j λb _ r (d:b=qb)=>z (d▸r),⟨B,s,C,z⟩,λb d=>?_,λb d=>by have h:=o.qr b d;exact⟨h.1,O,h.2.2⟩,λb d i=>?_,hi⟩
 ·rcases hQ b d with d|d
  ·have h:=o.qq b d;exact⟨h.1,O,h.2.2⟩
  ·have:=o.p.e.1;exact⟨O,O,λD=>by have:=uL o.p D;omega⟩
 ·rcases hQ b d with d|d
  ·exact o.dj b d i
  ·have:=(o.qr b i).2.1;omega
theorem QP.gF (o:QP σ0 U L H held s0 P gb km fm x qb Qq Qr qs rs q){s':Sl}{l':List P2}{Q':Rg}(e:Ext Qr U w)(hr:bT s' 2 (gR l') w Q')(hQ:∀b,Q' b->Qr b\/U.size<=b/\b<w.size)(hi:oR {q with rs:=l'}){K:aP}
 (hK:∀u,Ext (· = qb) w u->QP σ0 u L H held s0 P gb km fm x qb Qq Q' qs s' {q with rs:=l'}->K u):dF (Addr.add ⟨qb,0,none⟩ 4) (.slice s'.a s'.len s'.cap) w K:=by
 have M:=e.1;have J:=o.b.lt;obtain⟨B,s,A,z⟩:=o.sB;have E:=o.p.out e λb _ d=>by have h:=o.qr b d;have g:=VD h.2.2;exact⟨g.1,g.2.1,g.2.2.1,g.2.2.2,h.1⟩
 have m:=aI.bS o.rq e λb _ i F=>o.dj b i F;refine(e.bV o.b z).s1 (by simp[vN]) λu y b=>?_;have j:=y.ext;have G:=y.1;have g:=VD s;have C:¬Q' qb:=λh=>by
  rcases hQ qb h with h|h
  ·exact z h
  ·omega
 refine hK u j ⟨E.out j λb _ (d:b=qb)=>by subst d;exact⟨g.1,g.2.1,g.2.2.1,g.2.2.2,B⟩,b,aI.bS m j λb _ r (d:b=qb)=>A (d▸r),aI.bS hr j λb _ r (d:b=qb)=>C (d▸r),⟨B,s,A,C⟩,λb d=>by have h:=o.qq b d;exact⟨h.1,O,h.2.2⟩,λb d=>?_,λb d i=>?_,hi⟩
 ·rcases hQ b d with d|d
  ·have h:=o.qr b d;exact⟨h.1,O,h.2.2⟩
  ·have:=o.p.e.1;exact⟨O,O,λD=>by have:=uL o.p D;omega⟩
 ·rcases hQ b i with i|i
  ·exact o.dj b d i
  ·have:=(o.qq b d).2.1;omega
theorem JA (o:QP σ0 U L H held s0 P gb km fm x qb Qq Qr qs rs q){c:Nat}(h:kv P gb km fm qb Qq Qr c):σ0.size<=c/\c<U.size:=by
 rcases h with h|rfl|h|h
 ·refine⟨?_,uL o.p h⟩;rcases h with h|rfl|rfl|rfl
  ·exact(o.p.pP c h).1
  ·exact o.p.rQ.1
  ·exact o.p.sS.1
  ·exact o.p.s7.1
 ·exact⟨o.sB.1,o.b.lt⟩
 ·have:=o.qq c h;exact⟨this.1,this.2.1⟩
 ·have:=o.qr c h;exact⟨this.1,this.2.1⟩
theorem tM {s:Sl}{l:List P2}(hs:cV s 2 (gR l) U F){i:Nat}{e:P2}(hb:l[i]?=some e){K:Addr->Prop}(hK:∀bb o,(∀(j:Nat) v,(k8 e)[j]?=some v->cell U ⟨bb,o+j,none⟩=some v)->K ⟨bb,o,none⟩):Ix s.a s.len (i:Int) 2 K:=by
 have u:=(cX.1 hb).1;have w:s.len=l.length:=by have:=hs.1;rw[UM]at this;omega
 obtain⟨b,o,m,_⟩:=hs.cell (j:=2*i+0) (v:=.int .i64 e.1) ((BL hb O).trans rfl);rw[m];refine ix O O ?_;rw[add_lit];refine hK b _ λj v g=>?_;have r:j<2:=(cX.1 g).1;obtain⟨x,y,d,p⟩:=hs.cell ((BL hb r).trans g);rw[m]at d;cases d;rw[show o+(i:Int).toNat*2+j=o+(2*i+j) by omega];exact p
theorem _root_.Go.Vc.bT.kf {s:Sl}{l:List P2}(h:bT s 2 (gR l) U F):s.len=l.length:=by have:=h.1;rw[UM]at this;omega
theorem ud {ty:Nat}{a c:Int}{K:Addr->Hp->Prop}(hK:∀w',aF U w'->w'.size=U.size+1->bY w' U.size [.int .i64 a,.int .i64 c]->K ⟨U.size,0,none⟩ w'):Nw (.cells #[.int .i64 0,.int .i64 0] ty (0,0)) U λn v20=>dF (n.add 0) (.int .i64 a) v20 λv21=>dF (n.add 1) (.int .i64 c) v21 λv22=>K n v22:=
 nw (cs:=[.int .i64 0,.int .i64 0]) λv20 r p j=>j.s1 aA λv21 b m=>m.s1 aA λv22 d g=>
  hK v22 (Ext.fresh p (b.ext.trans d.ext) λi (hi:i=U.size)=>O) (by have:=b.1;have:=d.1;omega) g
theorem qQ {ty:Nat}{a b c d:Int}{K:Addr->Hp->Prop}(hK:∀w',aF U w'->bY w' U.size (jZ (a,b,c,d))->K ⟨U.size,0,none⟩ w'):Nw (.cells #[.int .i64 0,.int .i64 0,.int .i64 0,.int .i64 0] ty (0,0)) U λn v20=>dF (n.add 0) (.int .i64 a) v20 λv21=>dF (n.add 1) (.int .i64 b) v21 λv22=>dF (n.add 2) (.int .i64 c) v22 λv23=>dF (n.add 3) (.int .i64 d) v23 λv24=>K n v24:=
 nw (cs:=[.int .i64 0,.int .i64 0,.int .i64 0,.int .i64 0]) λv20 z x r=>r.s1 aA λv21 s u=>u.s1 aA λv22 y p=>p.s1 aA λv23 w m=>m.s1 aA λv24 j g=>
  hK v24 (Ext.fresh x (((s.ext.trans y.ext).trans w.ext).trans j.ext) λi (hi:i=U.size)=>O) g
theorem Ll {s:Sl}{l:List P2}(hr:bT s 2 (gR l) U Q)(hl:l.length<=100000)(k:P2){S:aP}(hS0:∀u,aF U u->S u){e t:Nat}{K:Sl->Hp->Prop}
 (hK:∀s' w,Ext Q U w->bT s' 2 (gR (l++[k])) w (λb=>Q b\/U.size<=b/\b<w.size)->S w/\K s' w) :
 Nw (.cells #[.int .i64 k.1,.int .i64 k.2] t (0,0)) U λn v=>And (S v)<|App s 2 16 e [.int .i64 0,.int .i64 0] ⟨some n,1,1⟩ v λs' w=>And (S w)<|K s' w:=by
 have z:=hr.kf;refine nw (cs:=k8 k) λv i e1 a=>⟨hS0 v e1,?_⟩;have d:=aI.bP hr e1;refine d.app (ys:=k8 k) rfl (by simp[k8]) ?_ (by simp[k8,dX]) ?_ ?_ nr λs' h' y r g=>?_
 ·intro j u hu;rw[add_lit,zH,a.cell];exact hu
 ·simp only;omega
 ·simp only;omega
 ·have m:Ext Q U h':=e1.to.trans r;refine hK s' h' m ?_;have:gR (l++[k])=gR l++k8 k:=by simp[gR]
  rw[this];refine aI.mono (aI.cut g) λb p x=>?_;rcases x.1 with h1|h1
  ·exact .inl h1
  ·exact .inr ⟨O,p⟩
end Go.Ar