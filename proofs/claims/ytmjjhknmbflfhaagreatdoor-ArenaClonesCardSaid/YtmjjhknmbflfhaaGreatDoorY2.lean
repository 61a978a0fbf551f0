/- Texts joined. -/
import Derived.Test.YtmjjhknmbflfhaaGreatDoorProg
import Derived.KernelRfl
import Derived.Test.YtmjjhknmbflfhaaGreatDoorY1
set_option linter.unusedVariables false
set_option linter.unusedSimpArgs false
namespace Go.Proofs
open Go.Vc
def WY.call (table : Sl) (pages : Int) (room : Int) (l : Sl) (more : Sl) (U : Hp) (R : Bool -> Hp -> Prop) : Prop := Wk Tryz.prog 12 #[.slice table.a table.len table.cap, .int .u8 pages, .int .u8 room, .slice l.a l.len l.cap, .slice more.a more.len more.cap] [.one .b] U R
def Xp.call (l : Sl) (U : Hp) (R : Bool -> Hp -> Prop) : Prop := Wk Tryz.prog 14 #[.slice l.a l.len l.cap] [.one .b] U R
def WT.call (U : Hp) (R : Bool -> Hp -> Prop) : Prop := Wk Tryz.prog 15 #[] [.one .b] U R
def Xk.call (table : Sl) (pages : Int) (many : Int) (room : Int) (l : Sl) (U : Hp) (R : Option Addr -> Bool -> Hp -> Prop) : Prop := Wk Tryz.prog 16 #[.slice table.a table.len table.cap, .int .u8 pages, .int .u8 many, .int .u8 room, .slice l.a l.len l.cap] [.one .p, .one .b] U R
def XD.call (table : Sl) (U : Hp) (R : Bool -> Hp -> Prop) : Prop := Wk Tryz.prog 17 #[.slice table.a table.len table.cap] [.one .b] U R
def Xi.call (a : Option Addr) (U : Hp) (R : Int -> Int -> Int -> Int -> Int -> Int -> Hp -> Prop) : Prop := Wk Tryz.prog 18 #[.pointer a] [.one (.i .i64), .one (.i .i64), .one (.i .i64), .one (.i .i64), .one (.i .i64), .one (.i .i64)] U R
def WA.call (vw : Option Addr) (vx : Int) (vx1 : Int) (vx2 : Int) (vx3 : Int) (vx4 : Int) (vx5 : Sl) (U : Hp) (R : Int -> Hp -> Prop) : Prop := Wk Tryz.prog 20 #[.pointer vw, .agg #[.int .i64 vx, .int .i64 vx1, .int .i64 vx2, .int .i64 vx3, .int .i64 vx4, .slice vx5.a vx5.len vx5.cap]] [.one (.i .i64)] U R
def WK.call (vw : Option Addr) (k : Int) (vx : Int) (vx1 : Int) (vx2 : Int) (vx3 : Int) (vx4 : Int) (vx5 : Sl) (U : Hp) (R : Bool -> Hp -> Prop) : Prop := Wk Tryz.prog 21 #[.pointer vw, .int .i64 k, .agg #[.int .i64 vx, .int .i64 vx1, .int .i64 vx2, .int .i64 vx3, .int .i64 vx4, .slice vx5.a vx5.len vx5.cap]] [.one .b] U R
def W8.call (a : Option Addr) (vclass : Int) (objects : Sl) (U : Hp) (R : Bool -> Int -> Hp -> Prop) : Prop := Wk Tryz.prog 22 #[.pointer a, .int .i64 vclass, .slice objects.a objects.len objects.cap] [.one .b, .one (.i .i64)] U R
def WG.call (a : Option Addr) (vclass : Int) (U : Hp) (R : Sl -> Int -> Hp -> Prop) : Prop := Wk Tryz.prog 23 #[.pointer a, .int .i64 vclass] [.one .s, .one (.i .i64)] U R
def WQ.call (a : Sl) (b : Sl) (U : Hp) (R : Bool -> Hp -> Prop) : Prop := Wk Tryz.prog 24 #[.slice a.a a.len a.cap, .slice b.a b.len b.cap] [.one .b] U R
def XC.call (a : Option Addr) (want : Int) (U : Hp) (R : Int -> Int -> Hp -> Prop) : Prop := Wk Tryz.prog 25 #[.pointer a, .int .i64 want] [.one (.i .i64), .one (.i .i64)] U R
def XN.call (a : Option Addr) (U : Hp) (R : Int -> Hp -> Prop) : Prop := Wk Tryz.prog 26 #[.pointer a] [.one (.i .i64)] U R
def Wv.call (s : Option Addr) (U : Hp) (R : Int -> Hp -> Prop) : Prop := Wk Tryz.prog 27 #[.pointer s] [.one (.i .i64)] U R
def Xh.call (a : Option Addr) (page : Int) (U : Hp) (R : Bool -> Hp -> Prop) : Prop := Wk Tryz.prog 28 #[.pointer a, .int .i64 page] [.one .b] U R
def Yd.call (a : Option Addr) (addr : Int) (U : Hp) (R : Int -> Int -> Int -> Hp -> Prop) : Prop := Wk Tryz.prog 29 #[.pointer a, .int .i64 addr] [.one (.i .i64), .one (.i .i64), .one (.i .i64)] U R
def WR.call (a : Option Addr) (addr : Int) (U : Hp) (R : Bool -> Hp -> Prop) : Prop := Wk Tryz.prog 30 #[.pointer a, .int .i64 addr] [.one .b] U R
def W0.call (a : Option Addr) (pages : Int) (align : Int) (U : Hp) (R : Int -> Int -> Hp -> Prop) : Prop := Wk Tryz.prog 33 #[.pointer a, .int .i64 pages, .int .i64 align] [.one (.i .i64), .one (.i .i64)] U R
def Yo.call (s : Option Addr) (U : Hp) (R : Option Addr -> Hp -> Prop) : Prop := Wk Tryz.prog 34 #[.pointer s] [.one .p] U R
def Wq.call (s : Option Addr) (U : Hp) (R : Sl -> Hp -> Prop) : Prop := Wk Tryz.prog 35 #[.pointer s] [.one .s] U R
def ZP.call (pages : Int) (U : Hp) (R : Option Addr -> Int -> Hp -> Prop) : Prop := Wk Tryz.prog 36 #[.int .i64 pages] [.one .p, .one (.i .i64)] U R
def ZQ.call (table : Sl) (s : Option Addr) (room : Int) (U : Hp) (R : Option Addr -> Int -> Hp -> Prop) : Prop := Wk Tryz.prog 37 #[.slice table.a table.len table.cap, .pointer s, .int .i64 room] [.one .p, .one (.i .i64)] U R
def Yk.call (a : Option Addr) (s : Option Addr) (U : Hp) (R : Option Addr -> Hp -> Prop) : Prop := Wk Tryz.prog 40 #[.pointer a, .pointer s] [.one .p] U R
def XW.call (many : Int) (U : Hp) (R : Int -> Hp -> Prop) : Prop := Wk Tryz.prog 42 #[.int .u8 many] [.one (.i .i64)] U R
def Yj.call (s : Option Addr) (addr : Int) (value : Int) (U : Hp) (R : Int -> Hp -> Prop) : Prop := Wk Tryz.prog 45 #[.pointer s, .int .i64 addr, .int .i64 value] [.one (.i .i64)] U R
def Wr.call (vw : Option Addr) (vx : Int) (vx1 : Int) (vx2 : Int) (vx3 : Int) (vx4 : Int) (vx5 : Sl) (U : Hp) (R : Int -> Hp -> Prop) : Prop := Wk Tryz.prog 49 #[.pointer vw, .agg #[.int .i64 vx, .int .i64 vx1, .int .i64 vx2, .int .i64 vx3, .int .i64 vx4, .slice vx5.a vx5.len vx5.cap]] [.one (.i .i64)] U R
def Xl.call (a : Option Addr) (b : Option Addr) (pages : Int) (U : Hp) (R : Bool -> Hp -> Prop) : Prop := Wk Tryz.prog 50 #[.pointer a, .pointer b, .int .i64 pages] [.one .b] U R
def XJ.call (a : Option Addr) (vclass : Int) (U : Hp) (R : Int -> Hp -> Prop) : Prop := Wk Tryz.prog 52 #[.pointer a, .int .i64 vclass] [.one (.i .i64)] U R
def Wy.call (a : Option Addr) (vclass : Int) (many : Int) (U : Hp) (R : Sl -> Int -> Hp -> Prop) : Prop := Wk Tryz.prog 53 #[.pointer a, .int .i64 vclass, .int .i64 many] [.one .s, .one (.i .i64)] U R
def WZ.call (a : Option Addr) (start : Int) (U : Hp) (R : Int -> Hp -> Prop) : Prop := Wk Tryz.prog 54 #[.pointer a, .int .i64 start] [.one (.i .i64)] U R
def WD.call (a : Option Addr) (vclass : Int) (objects : Sl) (U : Hp) (R : Int -> Hp -> Prop) : Prop := Wk Tryz.prog 55 #[.pointer a, .int .i64 vclass, .slice objects.a objects.len objects.cap] [.one (.i .i64)] U R
def XF.call (c : Int) (c1 : Int) (c2 : Int) (U : Hp) (R : Bool -> Hp -> Prop) : Prop := Wk Tryz.prog 56 #[.agg #[.int .i64 c, .int .i64 c1, .int .i64 c2]] [.one .b] U R
def Wz.call (a : Option Addr) (U : Hp) (R : Bool -> Hp -> Prop) : Prop := Wk Tryz.prog 57 #[.pointer a] [.one .b] U R
def ZI.call (c : Int) (c1 : Int) (c2 : Int) (U : Hp) (R : Int -> Int -> Hp -> Prop) : Prop := Wk Tryz.prog 58 #[.agg #[.int .i64 c, .int .i64 c1, .int .i64 c2]] [.one (.i .i64), .one (.i .i64)] U R
def XV.call (l : Option Addr) (U : Hp) (R : Sl -> Hp -> Prop) : Prop := Wk Tryz.prog 59 #[.pointer l] [.one .s] U R
def W9.call (c : Option Addr) (U : Hp) (R : Sl -> Hp -> Prop) : Prop := Wk Tryz.prog 60 #[.pointer c] [.one .s] U R
def Yp.call (l : Option Addr) (U : Hp) (R : Int -> Hp -> Prop) : Prop := Wk Tryz.prog 61 #[.pointer l] [.one (.i .i64)] U R
def YN.call (vh : Option Addr) (U : Hp) (R : Int -> Hp -> Prop) : Prop := Wk Tryz.prog 62 #[.pointer vh] [.one (.i .i64)] U R
def WP.call (vw : Option Addr) (k : Int) (vclass : Int) (addr : Int) (U : Hp) (R : Int -> Hp -> Prop) : Prop := Wk Tryz.prog 63 #[.pointer vw, .int .i64 k, .int .i64 vclass, .int .i64 addr] [.one (.i .i64)] U R
def W1.call (a : Option Addr) (vclass : Int) (U : Hp) (R : Int -> Hp -> Prop) : Prop := Wk Tryz.prog 64 #[.pointer a, .int .i64 vclass] [.one (.i .i64)] U R
def WU.call (l : Option Addr) (addr : Int) (U : Hp) (R : Bool -> Int -> Hp -> Prop) : Prop := Wk Tryz.prog 65 #[.pointer l, .int .i64 addr] [.one .b, .one (.i .i64)] U R
def Xd.call (c : Option Addr) (objects : Sl) (U : Hp) (R : Bool -> Int -> Hp -> Prop) : Prop := Wk Tryz.prog 66 #[.pointer c, .slice objects.a objects.len objects.cap] [.one .b, .one (.i .i64)] U R
def WF.call (c : Option Addr) (U : Hp) (R : Sl -> Int -> Hp -> Prop) : Prop := Wk Tryz.prog 67 #[.pointer c] [.one .s, .one (.i .i64)] U R
def Xg.call (a : Option Addr) (runs : Sl) (U : Hp) (R : Hp -> Prop) : Prop := Wk Tryz.prog 68 #[.pointer a, .slice runs.a runs.len runs.cap] [] U R
def W4.call (l : Option Addr) (U : Hp) (R : Sl -> Hp -> Prop) : Prop := Wk Tryz.prog 69 #[.pointer l] [.one .s] U R
def Yf.call (t : Option Addr) (want : Int) (U : Hp) (R : Sl -> Int -> Hp -> Prop) : Prop := Wk Tryz.prog 70 #[.pointer t, .int .i64 want] [.one .s, .one (.i .i64)] U R
def Xb.call (t : Option Addr) (start : Int) (pages : Int) (U : Hp) (R : Int -> Hp -> Prop) : Prop := Wk Tryz.prog 71 #[.pointer t, .int .i64 start, .int .i64 pages] [.one (.i .i64)] U R
def XE.call (s : Option Addr) (start : Int) (pages : Int) (U : Hp) (R : Int -> Hp -> Prop) : Prop := Wk Tryz.prog 72 #[.pointer s, .int .i64 start, .int .i64 pages] [.one (.i .i64)] U R
def Yq.call (t : Option Addr) (U : Hp) (R : Sl -> Hp -> Prop) : Prop := Wk Tryz.prog 73 #[.pointer t] [.one .s] U R
def Xn.call (t : Option Addr) (huge : Int) (U : Hp) (R : Int -> Hp -> Prop) : Prop := Wk Tryz.prog 74 #[.pointer t, .int .i64 huge] [.one (.i .i64)] U R
def Xv.call (vh : Option Addr) (start : Int) (pages : Int) (U : Hp) (R : Int -> Hp -> Prop) : Prop := Wk Tryz.prog 75 #[.pointer vh, .int .i64 start, .int .i64 pages] [.one (.i .i64)] U R
def Yh.call (s : Option Addr) (start : Int) (pages : Int) (U : Hp) (R : Int -> Hp -> Prop) : Prop := Wk Tryz.prog 76 #[.pointer s, .int .i64 start, .int .i64 pages] [.one (.i .i64)] U R
def Xs.call (s : Option Addr) (U : Hp) (R : Bool -> Hp -> Prop) : Prop := Wk Tryz.prog 77 #[.pointer s] [.one .b] U R
def XX.call (t : Option Addr) (page : Int) (U : Hp) (R : Int -> Hp -> Prop) : Prop := Wk Tryz.prog 78 #[.pointer t, .int .i64 page] [.one (.i .i64)] U R
def Yx.call (m : Option Addr) (page : Int) (U : Hp) (R : Int -> Hp -> Prop) : Prop := Wk Tryz.prog 79 #[.pointer m, .int .i64 page] [.one (.i .i64)] U R
def Yl.call (l : Option Addr) (addr : Int) (U : Hp) (R : Int -> Int -> Hp -> Prop) : Prop := Wk Tryz.prog 80 #[.pointer l, .int .i64 addr] [.one (.i .i64), .one (.i .i64)] U R
def Yz.call (a : Option Addr) (pages : Int) (align : Int) (no : Int) (U : Hp) (R : Int -> Int -> Hp -> Prop) : Prop := Wk Tryz.prog 82 #[.pointer a, .int .i64 pages, .int .i64 align, .int .i64 no] [.one (.i .i64), .one (.i .i64)] U R
def Wu.call (s : Sl) (U : Hp) (R : Sl -> Hp -> Prop) : Prop := Wk Tryz.prog 83 #[.slice s.a s.len s.cap] [.one .s] U R
def YC.call (s : Option Addr) (addr : Int) (U : Hp) (R : Int -> Int -> Hp -> Prop) : Prop := Wk Tryz.prog 84 #[.pointer s, .int .i64 addr] [.one (.i .i64), .one (.i .i64)] U R
def Zt.call (table : Sl) (U : Hp) (R : Bool -> Hp -> Prop) : Prop := Wk Tryz.prog 85 #[.slice table.a table.len table.cap] [.one .b] U R
def Wc.call (s : Sl) (U : Hp) (R : Sl -> Hp -> Prop) : Prop := Wk Tryz.prog 86 #[.slice s.a s.len s.cap] [.one .s] U R
def Zk.call (U : Hp) (R : Option Addr -> Hp -> Prop) : Prop := Wk Tryz.prog 87 #[] [.one .p] U R
def Z3.call (pages : Int) (U : Hp) (R : Option Addr -> Int -> Hp -> Prop) : Prop := Wk Tryz.prog 88 #[.int .i64 pages] [.one .p, .one (.i .i64)] U R
def Qw.call (pages : Int) (U : Hp) (R : Option Addr -> Int -> Hp -> Prop) : Prop := Wk Tryz.prog 89 #[.int .i64 pages] [.one .p, .one (.i .i64)] U R
def Zs.call (vclass : Int) (vclass1 : Int) (vclass2 : Int) (U : Hp) (R : Option Addr -> Int -> Hp -> Prop) : Prop := Wk Tryz.prog 90 #[.agg #[.int .i64 vclass, .int .i64 vclass1, .int .i64 vclass2]] [.one .p, .one (.i .i64)] U R
def Zj.call (batch : Int) (room : Int) (U : Hp) (R : Option Addr -> Int -> Hp -> Prop) : Prop := Wk Tryz.prog 91 #[.int .i64 batch, .int .i64 room] [.one .p, .one (.i .i64)] U R
def XK.call (vh : Option Addr) (U : Hp) (R : Option Addr -> Hp -> Prop) : Prop := Wk Tryz.prog 103 #[.pointer vh] [.one .p] U R
def W7.call (t : Option Addr) (U : Hp) (R : Option Addr -> Hp -> Prop) : Prop := Wk Tryz.prog 104 #[.pointer t] [.one .p] U R
def W6.call (m : Option Addr) (U : Hp) (R : Option Addr -> Hp -> Prop) : Prop := Wk Tryz.prog 105 #[.pointer m] [.one .p] U R
def X1.call (l : Option Addr) (U : Hp) (R : Option Addr -> Hp -> Prop) : Prop := Wk Tryz.prog 106 #[.pointer l] [.one .p] U R
def Xq.call (c : Option Addr) (U : Hp) (R : Option Addr -> Hp -> Prop) : Prop := Wk Tryz.prog 107 #[.pointer c] [.one .p] U R
def Xu.call (s : Option Addr) (addr : Int) (words : Int) (U : Hp) (R : Int -> Hp -> Prop) : Prop := Wk Tryz.prog 112 #[.pointer s, .int .i64 addr, .int .i64 words] [.one (.i .i64)] U R
def YP.call (s : Option Addr) (word : Int) (value : Int) (U : Hp) (R : Hp -> Prop) : Prop := Wk Tryz.prog 113 #[.pointer s, .int .i64 word, .int .i64 value] [] U R
def WE.call (vw : Option Addr) (k : Int) (vclass : Int) (l : Sl) (U : Hp) (R : Hp -> Prop) : Prop := Wk Tryz.prog 127 #[.pointer vw, .int .i64 k, .int .i64 vclass, .slice l.a l.len l.cap] [] U R
def Wt.call (vw : Option Addr) (k : Int) (vclass : Int) (l : Sl) (moved : Bool) (U : Hp) (R : Hp -> Prop) : Prop := Wk Tryz.prog 128 #[.pointer vw, .int .i64 k, .int .i64 vclass, .slice l.a l.len l.cap, .bool moved] [] U R
def WO.call (vw : Option Addr) (a : Option Addr) (vx : Int) (vx1 : Int) (vx2 : Int) (vx3 : Int) (vx4 : Int) (vx5 : Sl) (U : Hp) (R : Int -> Hp -> Prop) : Prop := Wk Tryz.prog 129 #[.pointer vw, .pointer a, .agg #[.int .i64 vx, .int .i64 vx1, .int .i64 vx2, .int .i64 vx3, .int .i64 vx4, .slice vx5.a vx5.len vx5.cap]] [.one (.i .i64)] U R
def YF.call (l : Option Addr) (start : Int) (U : Hp) (R : Int -> Hp -> Prop) : Prop := Wk Tryz.prog 130 #[.pointer l, .int .i64 start] [.one (.i .i64)] U R
def Xf.call (l : Option Addr) (many : Int) (U : Hp) (R : Sl -> Int -> Hp -> Prop) : Prop := Wk Tryz.prog 131 #[.pointer l, .int .i64 many] [.one .s, .one (.i .i64)] U R
def YE.call (l : Option Addr) (objects : Sl) (U : Hp) (R : Sl -> Int -> Hp -> Prop) : Prop := Wk Tryz.prog 132 #[.pointer l, .slice objects.a objects.len objects.cap] [.one .s, .one (.i .i64)] U R
def ZF.call (c : Int) (c1 : Int) (c2 : Int) (U : Hp) (R : Bool -> Hp -> Prop) : Prop := Wk Tryz.prog 133 #[.agg #[.int .i64 c, .int .i64 c1, .int .i64 c2]] [.one .b] U R
def YV.call (c : Int) (c1 : Int) (c2 : Int) (U : Hp) (R : Int -> Hp -> Prop) : Prop := Wk Tryz.prog 134 #[.agg #[.int .i64 c, .int .i64 c1, .int .i64 c2]] [.one (.i .i64)] U R
def Ww.call (l : Option Addr) (U : Hp) (R : Bool -> Hp -> Prop) : Prop := Wk Tryz.prog 135 #[.pointer l] [.one .b] U R
def YU.call (s : Option Addr) (U : Hp) (R : Int -> Int -> Hp -> Prop) : Prop := Wk Tryz.prog 136 #[.pointer s] [.agg [(.i .i64), (.i .i64)]] U R
def WJ.call (c : Option Addr) (U : Hp) (R : Bool -> Hp -> Prop) : Prop := Wk Tryz.prog 137 #[.pointer c] [.one .b] U R
def Xw.call (slices : Sl) (U : Hp) (R : Sl -> Hp -> Prop) : Prop := Wk Tryz.prog 138 #[.slice slices.a slices.len slices.cap] [.one .s] U R
def XU.call (s : Option Addr) (U : Hp) (R : Int -> Hp -> Prop) : Prop := Wk Tryz.prog 139 #[.pointer s] [.one (.i .i64)] U R
def Xx.call (vh : Option Addr) (U : Hp) (R : Bool -> Hp -> Prop) : Prop := Wk Tryz.prog 140 #[.pointer vh] [.one .b] U R
def XS.call (l : Option Addr) (addr : Int) (U : Hp) (R : Option Addr -> Hp -> Prop) : Prop := Wk Tryz.prog 141 #[.pointer l, .int .i64 addr] [.one .p] U R
def Ym.call (s : Option Addr) (addr : Int) (U : Hp) (R : Bool -> Int -> Hp -> Prop) : Prop := Wk Tryz.prog 142 #[.pointer s, .int .i64 addr] [.one .b, .one (.i .i64)] U R
def XO.call (m : Option Addr) (start : Int) (pages : Int) (U : Hp) (R : Int -> Hp -> Prop) : Prop := Wk Tryz.prog 143 #[.pointer m, .int .i64 start, .int .i64 pages] [.one (.i .i64)] U R
def Xz.call (t : Option Addr) (start : Int) (pages : Int) (U : Hp) (R : Int -> Hp -> Prop) : Prop := Wk Tryz.prog 144 #[.pointer t, .int .i64 start, .int .i64 pages] [.one (.i .i64)] U R
def Yb.call (vh : Option Addr) (start : Int) (pages : Int) (U : Hp) (R : Int -> Hp -> Prop) : Prop := Wk Tryz.prog 145 #[.pointer vh, .int .i64 start, .int .i64 pages] [.one (.i .i64)] U R
def We.call (s : Sl) (del : Fv) (U : Hp) (R : Sl -> Hp -> Prop) : Prop := Wk Tryz.prog 146 #[.slice s.a s.len s.cap, .func (.func del.f) del.first del.captured] [.one .s] U R
def X2.call (vx : Int) (vx1 : Int) (vx2 : Option Addr) (cap0 : Addr) (U : Hp) (R : Bool -> Hp -> Prop) : Prop := Wk Tryz.prog 147 #[.agg #[.int .i64 vx, .int .i64 vx1, .pointer vx2], .pointer (some cap0)] [.one .b] U R
def WS.call (t : Option Addr) (U : Hp) (R : Bool -> Hp -> Prop) : Prop := Wk Tryz.prog 148 #[.pointer t] [.one .b] U R
def XM.call (t : Option Addr) (U : Hp) (R : Int -> Hp -> Prop) : Prop := Wk Tryz.prog 149 #[.pointer t] [.one (.i .i64)] U R
def YZ.call (l : Sl) (state : Int) (U : Hp) (R : Int -> Hp -> Prop) : Prop := Wk Tryz.prog 150 #[.slice l.a l.len l.cap, .int .i64 state] [.one (.i .i64)] U R
def Xo.call (t : Option Addr) (huge : Int) (U : Hp) (R : Sl -> Hp -> Prop) : Prop := Wk Tryz.prog 151 #[.pointer t, .int .i64 huge] [.one .s] U R
def WX.call (vx : Sl) (cmp : Fv) (U : Hp) (R : Hp -> Prop) : Prop := Wk Tryz.prog 152 #[.slice vx.a vx.len vx.cap, .func (.func cmp.f) cmp.first cmp.captured] [] U R
def XH.call (g : Int) (vh : Int) (cap0 : Addr) (U : Hp) (R : Int -> Hp -> Prop) : Prop := Wk Tryz.prog 153 #[.int .i64 g, .int .i64 vh, .pointer (some cap0)] [.one (.i .i64)] U R
def ZG.call (l : Sl) (U : Hp) (R : Int -> Hp -> Prop) : Prop := Wk Tryz.prog 154 #[.slice l.a l.len l.cap] [.one (.i .i64)] U R
def Xr.call (t : Option Addr) (start : Int) (pages : Int) (to : Int) (vfrom : Sl) (U : Hp) (R : Int -> Hp -> Prop) : Prop := Wk Tryz.prog 155 #[.pointer t, .int .i64 start, .int .i64 pages, .int .i64 to, .slice vfrom.a vfrom.len vfrom.cap] [.one (.i .i64)] U R
def XQ.call (s : Option Addr) (start : Int) (pages : Int) (to : Bool) (to1 : Bool) (U : Hp) (R : Int -> Hp -> Prop) : Prop := Wk Tryz.prog 156 #[.pointer s, .int .i64 start, .int .i64 pages, .agg #[.bool to, .bool to1]] [.one (.i .i64)] U R
def X0.call (t : Option Addr) (is : Int) (U : Hp) (R : Sl -> Hp -> Prop) : Prop := Wk Tryz.prog 157 #[.pointer t, .int .i64 is] [.one .s] U R
def XR.call (t : Option Addr) (huge : Int) (U : Hp) (R : Sl -> Int -> Hp -> Prop) : Prop := Wk Tryz.prog 158 #[.pointer t, .int .i64 huge] [.one .s, .one (.i .i64)] U R
def Z2.call (l : Sl) (U : Hp) (R : Bool -> Hp -> Prop) : Prop := Wk Tryz.prog 159 #[.slice l.a l.len l.cap] [.one .b] U R
def Zz.call (l : Sl) (state : Int) (U : Hp) (R : Hp -> Prop) : Prop := Wk Tryz.prog 160 #[.slice l.a l.len l.cap, .int .i64 state] [] U R
def X5.call (vh : Option Addr) (start : Int) (pages : Int) (U : Hp) (R : Int -> Hp -> Prop) : Prop := Wk Tryz.prog 161 #[.pointer vh, .int .i64 start, .int .i64 pages] [.one (.i .i64)] U R
def XP.call (vh : Option Addr) (page : Int) (U : Hp) (R : Bool -> Hp -> Prop) : Prop := Wk Tryz.prog 162 #[.pointer vh, .int .i64 page] [.one .b] U R
def YL.call (vh : Option Addr) (start : Int) (pages : Int) (U : Hp) (R : Hp -> Prop) : Prop := Wk Tryz.prog 163 #[.pointer vh, .int .i64 start, .int .i64 pages] [] U R
def Xt.call (m : Option Addr) (U : Hp) (R : Bool -> Hp -> Prop) : Prop := Wk Tryz.prog 164 #[.pointer m] [.one .b] U R
def X4.call (s : Option Addr) (addr : Int) (U : Hp) (R : Int -> Int -> Hp -> Prop) : Prop := Wk Tryz.prog 165 #[.pointer s, .int .i64 addr] [.one (.i .i64), .one (.i .i64)] U R
def XT.call (vh : Option Addr) (pages : Int) (align : Int) (U : Hp) (R : Int -> Int -> Hp -> Prop) : Prop := Wk Tryz.prog 166 #[.pointer vh, .int .i64 pages, .int .i64 align] [.one (.i .i64), .one (.i .i64)] U R
def YD.call (a : Option Addr) (pages : Int) (U : Hp) (R : Bool -> Hp -> Prop) : Prop := Wk Tryz.prog 167 #[.pointer a, .int .i64 pages] [.one .b] U R
def XL.call (t : Option Addr) (start : Int) (pages : Int) (U : Hp) (R : Int -> Hp -> Prop) : Prop := Wk Tryz.prog 168 #[.pointer t, .int .i64 start, .int .i64 pages] [.one (.i .i64)] U R
def X3.call (m : Option Addr) (start : Int) (pages : Int) (no : Int) (U : Hp) (R : Int -> Hp -> Prop) : Prop := Wk Tryz.prog 169 #[.pointer m, .int .i64 start, .int .i64 pages, .int .i64 no] [.one (.i .i64)] U R
def YM.call (s : Option Addr) (word : Int) (U : Hp) (R : Int -> Hp -> Prop) : Prop := Wk Tryz.prog 170 #[.pointer s, .int .i64 word] [.one (.i .i64)] U R
def YW.call (c : Int) (c1 : Int) (c2 : Int) (U : Hp) (R : Int -> Int -> Hp -> Prop) : Prop := Wk Tryz.prog 171 #[.agg #[.int .i64 c, .int .i64 c1, .int .i64 c2]] [.one (.i .i64), .one (.i .i64)] U R
def YG.call (a : Option Addr) (U : Hp) (R : Hp -> Prop) : Prop := Wk Tryz.prog 186 #[.pointer a] [] U R
def Zw.call (m : Option Nat) (U : Hp) (R : Option Nat -> Hp -> Prop) : Prop := Wk Tryz.prog 193 #[.map m] [.one .m] U R
def Yg.call (m : Option Addr) (U : Hp) (R : Sl -> Hp -> Prop) : Prop := Wk Tryz.prog 194 #[.pointer m] [.one .s] U R
def Yc.call (m : Option Addr) (start : Int) (pages : Int) (no : Int) (U : Hp) (R : Int -> Hp -> Prop) : Prop := Wk Tryz.prog 195 #[.pointer m, .int .i64 start, .int .i64 pages, .int .i64 no] [.one (.i .i64)] U R
def YQ.call (s : Option Addr) (U : Hp) (R : Option Addr -> Hp -> Prop) : Prop := Wk Tryz.prog 196 #[.pointer s] [.one .p] U R
def Wj.call (s : Sl) (v : Bool) (v1 : Bool) (U : Hp) (R : Bool -> Hp -> Prop) : Prop := Wk Tryz.prog 198 #[.slice s.a s.len s.cap, .agg #[.bool v, .bool v1]] [.one .b] U R
def WN.call (vw : Option Addr) (U : Hp) (R : Hp -> Prop) : Prop := Wk Tryz.prog 201 #[.pointer vw] [] U R
def WB.call (vw : Option Addr) (addr : Int) (U : Hp) (R : Bool -> Hp -> Prop) : Prop := Wk Tryz.prog 202 #[.pointer vw, .int .i64 addr] [.one .b] U R
def Qv.call (start : Int) (vclass : Int) (vclass1 : Int) (vclass2 : Int) (U : Hp) (R : Option Addr -> Int -> Hp -> Prop) : Prop := Wk Tryz.prog 203 #[.int .i64 start, .agg #[.int .i64 vclass, .int .i64 vclass1, .int .i64 vclass2]] [.one .p, .one (.i .i64)] U R
def Wb.call (vx : Sl) (target : Int) (cmp : Fv) (U : Hp) (R : Int -> Bool -> Hp -> Prop) : Prop := Wk Tryz.prog 204 #[.slice vx.a vx.len vx.cap, .int .i64 target, .func (.func cmp.f) cmp.first cmp.captured] [.one (.i .i64), .one .b] U R
def YA.call (vx : Int) (vx1 : Int) (vx2 : Option Addr) (start : Int) (U : Hp) (R : Int -> Hp -> Prop) : Prop := Wk Tryz.prog 205 #[.agg #[.int .i64 vx, .int .i64 vx1, .pointer vx2], .int .i64 start] [.one (.i .i64)] U R
def Wf.call (s : Sl) (i : Int) (v : Sl) (U : Hp) (R : Sl -> Hp -> Prop) : Prop := Wk Tryz.prog 206 #[.slice s.a s.len s.cap, .int .i64 i, .slice v.a v.len v.cap] [.one .s] U R
def YB.call (l : Option Addr) (U : Hp) (R : Int -> Bool -> Hp -> Prop) : Prop := Wk Tryz.prog 207 #[.pointer l] [.one (.i .i64), .one .b] U R
def Wn.call (s : Sl) (v : Int) (U : Hp) (R : Bool -> Hp -> Prop) : Prop := Wk Tryz.prog 208 #[.slice s.a s.len s.cap, .int .i64 v] [.one .b] U R
def YS.call (s : Option Addr) (addr : Int) (U : Hp) (R : Int -> Hp -> Prop) : Prop := Wk Tryz.prog 209 #[.pointer s, .int .i64 addr] [.one (.i .i64)] U R
def XY.call (s : Option Addr) (U : Hp) (R : Bool -> Hp -> Prop) : Prop := Wk Tryz.prog 210 #[.pointer s] [.one .b] U R
def XB.call (s : Sl) (n : Int) (U : Hp) (R : Sl -> Hp -> Prop) : Prop := Wk Tryz.prog 211 #[.slice s.a s.len s.cap, .int .i64 n] [.one .s] U R
def X7.call (s : Option Addr) (addr : Int) (U : Hp) (R : Int -> Int -> Hp -> Prop) : Prop := Wk Tryz.prog 212 #[.pointer s, .int .i64 addr] [.one (.i .i64), .one (.i .i64)] U R
def X6.call (vh : Option Addr) (start : Int) (pages : Int) (U : Hp) (R : Hp -> Prop) : Prop := Wk Tryz.prog 213 #[.pointer vh, .int .i64 start, .int .i64 pages] [] U R
def Wh.call (s : Sl) (f : Fv) (U : Hp) (R : Int -> Hp -> Prop) : Prop := Wk Tryz.prog 214 #[.slice s.a s.len s.cap, .func (.func f.f) f.first f.captured] [.one (.i .i64)] U R
def WW.call (data : Sl) (a : Int) (b : Int) (limit : Int) (cmp : Fv) (U : Hp) (R : Hp -> Prop) : Prop := Wk Tryz.prog 215 #[.slice data.a data.len data.cap, .int .i64 a, .int .i64 b, .int .i64 limit, .func (.func cmp.f) cmp.first cmp.captured] [] U R
def Ze.call (vx : Int) (U : Hp) (R : Int -> Hp -> Prop) : Prop := Wk Tryz.prog 216 #[.int .u64 vx] [.one (.i .i64)] U R
def Wx.call (s : Sl) (f : Fv) (U : Hp) (R : Bool -> Hp -> Prop) : Prop := Wk Tryz.prog 217 #[.slice s.a s.len s.cap, .func (.func f.f) f.first f.captured] [.one .b] U R
def Yr.call (s : Int) (cap0 : Addr) (U : Hp) (R : Bool -> Hp -> Prop) : Prop := Wk Tryz.prog 218 #[.int .i64 s, .pointer (some cap0)] [.one .b] U R
def Yw.call (s : Option Addr) (start : Int) (pages : Int) (U : Hp) (R : Sl -> Int -> Hp -> Prop) : Prop := Wk Tryz.prog 219 #[.pointer s, .int .i64 start, .int .i64 pages] [.one .s, .one (.i .i64)] U R
def Yy.call (s : Option Addr) (start : Int) (pages : Int) (to : Bool) (to1 : Bool) (U : Hp) (R : Hp -> Prop) : Prop := Wk Tryz.prog 220 #[.pointer s, .int .i64 start, .int .i64 pages, .agg #[.bool to, .bool to1]] [] U R
def Xy.call (vh : Option Addr) (page : Int) (U : Hp) (R : Int -> Int -> Bool -> Hp -> Prop) : Prop := Wk Tryz.prog 221 #[.pointer vh, .int .i64 page] [.one (.i .i64), .one (.i .i64), .one .b] U R
def Yi.call (s : Option Addr) (object : Int) (U : Hp) (R : Int -> Hp -> Prop) : Prop := Wk Tryz.prog 222 #[.pointer s, .int .i64 object] [.one (.i .i64)] U R
def XZ.call (vx : Sl) (U : Hp) (R : Int -> Hp -> Prop) : Prop := Wk Tryz.prog 223 #[.slice vx.a vx.len vx.cap] [.one (.i .i64)] U R
def QT.call (seq : Fv) (U : Hp) (R : Sl -> Hp -> Prop) : Prop := Wk Tryz.prog 224 #[.func (.func seq.f) seq.first seq.captured] [.one .s] U R
def Zy.call (m : Option Nat) (U : Hp) (R : Fv -> Hp -> Prop) : Prop := Wk Tryz.prog 225 #[.map m] [.one .fn] U R
def YI.call (s : Option Addr) (start : Int) (pages : Int) (U : Hp) (R : Int -> Hp -> Prop) : Prop := Wk Tryz.prog 226 #[.pointer s, .int .i64 start, .int .i64 pages] [.one (.i .i64)] U R
def Ya.call (t : Option Addr) (huge : Int) (U : Hp) (R : Int -> Hp -> Prop) : Prop := Wk Tryz.prog 227 #[.pointer t, .int .i64 huge] [.one (.i .i64)] U R
def Xm.call (c : Option Addr) (U : Hp) (R : Sl -> Hp -> Prop) : Prop := Wk Tryz.prog 250 #[.pointer c] [.one .s] U R
def YO.call (m : Option Addr) (page : Int) (no : Int) (U : Hp) (R : Hp -> Prop) : Prop := Wk Tryz.prog 256 #[.pointer m, .int .i64 page, .int .i64 no] [] U R
def Wm.call (s : Sl) (v : Bool) (v1 : Bool) (U : Hp) (R : Int -> Hp -> Prop) : Prop := Wk Tryz.prog 257 #[.slice s.a s.len s.cap, .agg #[.bool v, .bool v1]] [.one (.i .i64)] U R
def Qk.call (s : Sl) (r : Int) (U : Hp) (R : Hp -> Prop) : Prop := Wk Tryz.prog 259 #[.slice s.a s.len s.cap, .int .i64 r] [] U R
def Xa.call (r : Int) (r1 : Int) (q : Int) (q1 : Int) (U : Hp) (R : Bool -> Hp -> Prop) : Prop := Wk Tryz.prog 260 #[.agg #[.int .i64 r, .int .i64 r1], .agg #[.int .i64 q, .int .i64 q1]] [.one .b] U R
def YR.call (s : Option Addr) (U : Hp) (R : Int -> Int -> Hp -> Prop) : Prop := Wk Tryz.prog 261 #[.pointer s] [.one (.i .i64), .one (.i .i64)] U R
def WL.call (s : Sl) (v : Int) (U : Hp) (R : Int -> Hp -> Prop) : Prop := Wk Tryz.prog 262 #[.slice s.a s.len s.cap, .int .i64 v] [.one (.i .i64)] U R
def YJ.call (s : Option Addr) (state : Int) (objects : Sl) (U : Hp) (R : Hp -> Prop) : Prop := Wk Tryz.prog 263 #[.pointer s, .int .i64 state, .slice objects.a objects.len objects.cap] [] U R
def YK.call (vh : Option Addr) (order : Int) (start : Int) (U : Hp) (R : Hp -> Prop) : Prop := Wk Tryz.prog 264 #[.pointer vh, .int .i64 order, .int .i64 start] [] U R
def Wo.call (data : Sl) (a : Int) (b : Int) (cmp : Fv) (U : Hp) (R : Hp -> Prop) : Prop := Wk Tryz.prog 265 #[.slice data.a data.len data.cap, .int .i64 a, .int .i64 b, .func (.func cmp.f) cmp.first cmp.captured] [] U R
def YT.call (vx : Int) (U : Hp) (R : Int -> Hp -> Prop) : Prop := Wk Tryz.prog 274 #[.int .u64 vx] [.one (.i .i64)] U R
def W5.call (s : Sl) (f : Fv) (U : Hp) (R : Int -> Hp -> Prop) : Prop := Wk Tryz.prog 275 #[.slice s.a s.len s.cap, .func (.func f.f) f.first f.captured] [.one (.i .i64)] U R
def Wg.call (s : Sl) (f : Fv) (U : Hp) (R : Bool -> Hp -> Prop) : Prop := Wk Tryz.prog 278 #[.slice s.a s.len s.cap, .func (.func f.f) f.first f.captured] [.one .b] U R
def Ys.call (p : Bool) (p1 : Bool) (U : Hp) (R : Bool -> Hp -> Prop) : Prop := Wk Tryz.prog 279 #[.agg #[.bool p, .bool p1]] [.one .b] U R
def XI.call (c : Option Addr) (way : Fv) (U : Hp) (R : Sl -> Hp -> Prop) : Prop := Wk Tryz.prog 300 #[.pointer c, .agg #[.func (.func way.f) way.first way.captured]] [.one .s] U R
def XG.call (c : Option Addr) (U : Hp) (R : Int -> Hp -> Prop) : Prop := Wk Tryz.prog 301 #[.pointer c] [.one (.i .i64)] U R
def Ws.call (node : Option Addr) (U : Hp) (R : Option Addr -> Hp -> Prop) : Prop := Wk Tryz.prog 303 #[.pointer node] [.one .p] U R
def WC.call (node : Option Addr) (U : Hp) (R : Option Addr -> Hp -> Prop) : Prop := Wk Tryz.prog 304 #[.pointer node] [.one .p] U R
def Wl.call (s : Sl) (f : Fv) (U : Hp) (R : Int -> Hp -> Prop) : Prop := Wk Tryz.prog 311 #[.slice s.a s.len s.cap, .func (.func f.f) f.first f.captured] [.one (.i .i64)] U R
def WV.call (s : Sl) (U : Hp) (R : Sl -> Hp -> Prop) : Prop := Wk Tryz.prog 318 #[.slice s.a s.len s.cap] [.one .s] U R
end Go.Proofs
namespace Go.Proofs
open Go.Vc

set_option maxRecDepth 100000
def ZI.hint : Hn := .q (.o 3) (.q (.q (.o 3) (.c (.q (.o 2) (.l)) (.l))) (.q (.reg (.held true [] (.take 0 (.take 1 (.take 2 (.take 3 (.take 5 (.take 6 (.all [(4, .take 7 (.take 8 (.take 9 (.take 10 (.done)))))]))))))))) (.l)))
def ZI.vc (c : Int) (c1 : Int) (c2 : Int) (U : Hp) (R : Int -> Int -> Hp -> Prop) : Prop :=
 Nw (.cells #[.int .i64 c, .int .i64 c1, .int .i64 c2] 51 (0, 0)) U fun n1 v =>
 LdI .i64 (n1.add 0) v fun t4 =>
 LdI .i64 (n1.add 1) v fun t41 =>
 LdI .i64 (n1.add 2) v fun t42 =>
 ZF.call t4 t41 t42 v fun t5 v1 =>
 If (!t5) (R 0 1 v1)
 (Held v1 fun S =>
 LdH S (.i .i64) (n1.add 1) fun (t8 : Int) =>
 Ar .i64 (t8 * 256) fun t9 =>
 LdH S (.i .i64) (n1.add 0) fun (t10 : Int) =>
 LdH S (.i .i64) (n1.add 1) fun (t101 : Int) =>
 LdH S (.i .i64) (n1.add 2) fun (t102 : Int) =>
 LdH S (.i .i64) (n1.add 0) fun (t13 : Int) =>
 YV.call t10 t101 t102 v1 fun t11 v2 =>
 And (S v2) <|
 Ar .i64 (t11 * t13) fun t14 =>
 Ar .i64 (t9 - t14) fun t15 =>
 R t15 0 v2)
theorem ZI.of_vc {c c1 c2 U R} (hv : ZI.vc c c1 c2 U R) : ZI.call c c1 c2 U R :=
 Wa Tryz.func58 (x := ZI.hint) (Eq.mpr (by kernel_rfl) hv)
def Zt.hint : Hn := .q (.o 1) (.q (.q (.reg (.seq [.op, .op, .op, .op, .grd false 3 [.op, .op, .op]])) (.c (.q (.o 1) (.l)) (.l))) (.q (.q (.o 3) (.k (.loop [(15, .one (.i .i64))] (.q (.o 1) (.q (.c (.l) (.l)) (.q (.k (.q (.o 6) (.q (.reg (.heldJ true [1] [(37, .one .b)] (.take 0 (.all [(1, .take 2 (.take 3 (.split 23 (.take 4 (.take 5 (.take 6 (.take 7 (.take 8 (.take 9 (.take 10 (.take 11 (.take 12 (.take 13 (.take 14 (.take 15 (.take 16 (.take 17 (.done))))))))))))))) (.take 4 (.take 5 (.take 6 (.split 26 (.take 7 (.take 9 (.take 10 (.take 11 (.take 12 (.take 13 (.all [(8, .all [(14, .take 15 (.take 16 (.take 17 (.done))))]), (14, .all [(8, .take 15 (.take 16 (.take 17 (.done))))])]))))))) (.take 7 (.take 8 (.take 9 (.take 10 (.take 11 (.take 12 (.take 13 (.take 14 (.take 15 (.take 16 (.take 17 (.done)))))))))))))))))))])))) (.c (.q (.o 1) (.l)) (.l))))) (.o 2))))))) (.q (.o 1) (.l))))
def Zt.vc (table : Sl) (U : Hp) (R : Bool -> Hp -> Prop) : Prop :=
 JnB (fun r v =>
 If r (R false v)
 (Xe [(.i .i64)] (fun I => I 0 v) fun J1 (t15 : Int) v1 =>
 If (decide (t15 < ((table.len : Nat) : Int))) (Ix table.a table.len t15 3 fun a18 =>
 LdI .i64 (a18.add 0) v1 fun t19 =>
 LdI .i64 (a18.add 1) v1 fun t191 =>
 LdI .i64 (a18.add 2) v1 fun t192 =>
 Nw (.cells #[.int .i64 0, .int .i64 0, .int .i64 0] 51 (0, 0)) v1 fun n4 v2 =>
 St1 (n4.add 0) (.int .i64 t19) v2 fun v3 =>
 St1 (n4.add 1) (.int .i64 t191) v3 fun v4 =>
 St1 (n4.add 2) (.int .i64 t192) v4 fun v5 =>
 Jn [.b] (fun (t37 : Bool) v6 =>
 If t37 (R false v6)
 (Ar .i64 (t15 + 1) fun t38 =>
 J1 t38 v6)) fun J2 =>
 Held v5 fun S =>
 LdH S (.i .i64) (n4.add 0) fun (t20 : Int) =>
 LdH S (.i .i64) (n4.add 1) fun (t201 : Int) =>
 LdH S (.i .i64) (n4.add 2) fun (t202 : Int) =>
 ZF.call t20 t201 t202 v5 fun t21 v7 =>
 If (!t21) (J2 true v7)
 (If (decide (t15 > 0)) (Ar .i64 (t15 - 1) fun t31 =>
 Ix table.a table.len t31 3 fun a32 =>
 (LdI .i64 (n4.add 0) v7 fun t28 =>
 LdI .i64 (a32.add 0) v7 fun t34 =>
 J2 (decide (t28 <= t34)) v7) ∧
 (LdI .i64 (a32.add 0) v7 fun t341 =>
 LdI .i64 (n4.add 0) v7 fun t281 =>
 J2 (decide (t281 <= t341)) v7))
 (J2 false v7)))
 (R true v1))) fun J =>
 If (decide (((table.len : Nat) : Int) < 1)) (J true U)
 (J (decide (((table.len : Nat) : Int) > 40)) U)
theorem Zt.of_vc {table U R} (hv : Zt.vc table U R) : Zt.call table U R :=
 Wa Tryz.func85 (x := Zt.hint) (Eq.mpr (by kernel_rfl) hv)
def ZF.hint : Hn := .q (.o 2) (.q (.reg (.seq [.op, .op, .op, .op, .grd true 3 [.op, .op, .op], .op, .grd true 4 [.op, .op, .op, .op], .op, .grd true 3 [.op, .op, .op], .op, .grd true 3 [.op, .op, .op], .op, .grd true 6 [.op, .op, .op, .op, .op, .op], .op, .grd true 3 [.op, .op, .op], .op, .grd true 3 [.op, .op, .op], .op])) (.l))
def ZF.vc (c : Int) (c1 : Int) (c2 : Int) (U : Hp) (R : Bool -> Hp -> Prop) : Prop :=
 Nw (.cells #[.int .i64 c, .int .i64 c1, .int .i64 c2] 51 (0, 0)) U fun n1 v =>
 LdI .i64 (n1.add 0) v fun t4 =>
 JnB (fun r v1 =>
 JnB (fun r1 v2 =>
 JnB (fun r2 v3 =>
 JnB (fun r3 v4 =>
 JnB (fun r4 v5 =>
 JnB (fun r5 v6 =>
 JnB (fun r6 v7 =>
 R r6 v7) fun J6 =>
 If r5 (LdI .i64 (n1.add 2) v6 fun t42 =>
 J6 (decide (t42 <= 32)) v6)
 (J6 false v6)) fun J5 =>
 If r4 (LdI .i64 (n1.add 2) v5 fun t37 =>
 J5 (decide (t37 ≥ 1)) v5)
 (J5 false v5)) fun J4 =>
 If r3 (LdI .i64 (n1.add 1) v4 fun t29 =>
 Ar .i64 (t29 * 256) fun t30 =>
 LdI .i64 (n1.add 0) v4 fun t32 =>
 J4 (decide (t30 ≥ t32)) v4)
 (J4 false v4)) fun J3 =>
 If r2 (LdI .i64 (n1.add 1) v3 fun t24 =>
 J3 (decide (t24 <= 4)) v3)
 (J3 false v3)) fun J2 =>
 If r1 (LdI .i64 (n1.add 1) v2 fun t19 =>
 J2 (decide (t19 ≥ 1)) v2)
 (J2 false v2)) fun J1 =>
 If r (LdI .i64 (n1.add 0) v1 fun t13 =>
 Nz 8 <|
 J1 ((t13.tmod 8) == 0) v1)
 (J1 false v1)) fun J =>
 If (decide (t4 ≥ 8)) (LdI .i64 (n1.add 0) v fun t8 =>
 J (decide (t8 <= 512)) v)
 (J false v)
theorem ZF.of_vc {c c1 c2 U R} (hv : ZF.vc c c1 c2 U R) : ZF.call c c1 c2 U R :=
 Wa Tryz.func133 (x := ZF.hint) (Eq.mpr (by kernel_rfl) hv)
def YV.hint : Hn := .q (.o 2) (.q (.o 7) (.l))
def YV.vc (c : Int) (c1 : Int) (c2 : Int) (U : Hp) (R : Int -> Hp -> Prop) : Prop :=
 Nw (.cells #[.int .i64 c, .int .i64 c1, .int .i64 c2] 51 (0, 0)) U fun n1 v =>
 LdI .i64 (n1.add 1) v fun t4 =>
 Ar .i64 (t4 * 256) fun t5 =>
 LdI .i64 (n1.add 0) v fun t7 =>
 Nz t7 <| Ar .i64 (t5.tdiv t7) fun t8 =>
 R t8 v
theorem YV.of_vc {c c1 c2 U R} (hv : YV.vc c c1 c2 U R) : YV.call c c1 c2 U R :=
 Wa Tryz.func134 (x := YV.hint) (Eq.mpr (by kernel_rfl) hv)
def YW.hint : Hn := .q (.o 3) (.q (.q (.o 3) (.c (.q (.o 2) (.l)) (.l))) (.q (.o 4) (.l)))
def YW.vc (c : Int) (c1 : Int) (c2 : Int) (U : Hp) (R : Int -> Int -> Hp -> Prop) : Prop :=
 Nw (.cells #[.int .i64 c, .int .i64 c1, .int .i64 c2] 51 (0, 0)) U fun n1 v =>
 LdI .i64 (n1.add 0) v fun t4 =>
 LdI .i64 (n1.add 1) v fun t41 =>
 LdI .i64 (n1.add 2) v fun t42 =>
 ZF.call t4 t41 t42 v fun t5 v1 =>
 If (!t5) (R 0 1 v1)
 (LdI .i64 (n1.add 0) v1 fun t7 =>
 LdI .i64 (n1.add 1) v1 fun t71 =>
 LdI .i64 (n1.add 2) v1 fun t72 =>
 YV.call t7 t71 t72 v1 fun t8 v2 =>
 R t8 0 v2)
theorem YW.of_vc {c c1 c2 U R} (hv : YW.vc c c1 c2 U R) : YW.call c c1 c2 U R :=
 Wa Tryz.func171 (x := YW.hint) (Eq.mpr (by kernel_rfl) hv)
end Go.Proofs
namespace Go.Ar
open Go Go.Vc Go.Proofs


variable {U : Hp}
theorem WeZ (x y z : Int) {R : Bool -> Hp -> Prop} (hR : ∀ σ', Ext0 U σ' -> R (QE x y z) σ') : ZF.call x y z U R := by
 refine ZF.of_vc ?_
 unfold ZF.vc
 refine nw (cs := [.int .i64 x, .int .i64 y, .int .i64 z]) fun h hz e hb => ?_
 have no : QE x y z = false -> R false h := fun hn => hn ▸ hR h e
 have neg : ¬ (8 <= x /\ x <= 512 /\ x % 8 = 0 /\ 1 <= y /\ y <= 4 /\ x <= y * 256 /\ 1 <= z /\ z <= 32) -> R false h := fun hn => no (by rw [← Bool.not_eq_true, Kc]; exact hn)
 refine hb.rI rfl (JnB.intro ?_)
 refine ifD (fun h1 => hb.rI rfl (JnB.intro ?_)) fun h1 => ?_
 case refine_2 =>
  iterate 6 refine JnB.intro (ifF rfl ?_)
  exact neg (by omega)
 refine ifD (fun h2 => hb.rI rfl (nz (by decide) (JnB.intro ?_))) fun h2 => ?_
 case refine_2 =>
  iterate 5 refine JnB.intro (ifF rfl ?_)
  exact neg (by omega)
 rw [ZK (by omega)]
 refine iff_ (fun h3 => hb.rI rfl (JnB.intro ?_)) fun h3 => ?_
 case refine_2 =>
  have : ¬ x % 8 = 0 := by simpa using h3
  iterate 4 refine JnB.intro (ifF rfl ?_)
  exact neg (by omega)
 have h3' : x % 8 = 0 := by simpa using h3
 refine ifD (fun h4 => hb.rI rfl (JnB.intro ?_)) fun h4 => ?_
 case refine_2 =>
  iterate 3 refine JnB.intro (ifF rfl ?_)
  exact neg (by omega)
 refine ifD (fun h5 => hb.rI rfl (ar (by omega) (by omega) (hb.rI rfl (JnB.intro ?_)))) fun h5 => ?_
 case refine_2 =>
  iterate 2 refine JnB.intro (ifF rfl ?_)
  exact neg (by omega)
 refine ifD (fun h6 => hb.rI rfl (JnB.intro ?_)) fun h6 => ?_
 case refine_2 => exact JnB.intro (ifF rfl (neg (by omega)))
 refine ifD (fun h7 => hb.rI rfl ?_) fun h7 => neg (by omega)
 have : decide (z <= 32) = QE x y z := by
  rw [Bool.eq_iff_iff, Kc]; simp; omega
 rw [this]
 exact hR h e
theorem HT {c : Cls} (hc : c.ok) {R : Int -> Hp -> Prop} (hR : ∀ σ', Ext0 U σ' -> R (c.n : Int) σ') : YV.call c.size c.pages c.batch U R := by
 refine YV.of_vc ?_
 unfold YV.vc
 have h := hc
 unfold Cls.ok at h
 refine nw (cs := [.int .i64 c.size, .int .i64 c.pages, .int .i64 c.batch]) fun h hz e hb => ?_
 refine hb.rI rfl (arN (m := c.pages * 256) (by simp) (by omega) (hb.rI rfl (nz (by omega) ?_)))
 refine arN (m := c.n) ?_ (by have := hc.n_le; omega) (hR _ e)
 rw [ZJ (by omega)]; simp [Cls.n]
theorem HK (x y z : Int) {R : Int -> Int -> Hp -> Prop} (h1 : ∀ c : Cls, c.ok -> x = c.size -> y = c.pages -> z = c.batch -> ∀ σ', Ext0 U σ' -> R (c.n : Int) 0 σ') (h0 : QE x y z = false -> ∀ σ', Ext0 U σ' -> R 0 1 σ') : YW.call x y z U R := by
 refine YW.of_vc ?_
 unfold YW.vc
 refine nw (cs := [.int .i64 x, .int .i64 y, .int .i64 z]) fun h hz e hb => ?_
 refine hb.rI rfl (hb.rI rfl (hb.rI rfl (WeZ _ _ _ fun h2 e2 => ?_)))
 have hb2 := e2.blk hb id
 cases hk : QE x y z
 ·exact ifT rfl (h0 hk _ (e.trans e2))
 ·obtain ⟨c, hc, _, rfl, rfl, rfl⟩ := Wcf hk
  exact ifF rfl (hb2.rI rfl (hb2.rI rfl (hb2.rI rfl (HT hc fun h3 e3 => h1 c hc rfl rfl rfl _ ((e.trans e2).trans e3)))))
theorem Why {c : Cls} (hc : c.ok) {R : Int -> Int -> Hp -> Prop} (hR : ∀ σ', Ext0 U σ' -> R (c.tail : Int) 0 σ') : ZI.call c.size c.pages c.batch U R := by
 refine ZI.of_vc ?_
 unfold ZI.vc
 have h := hc
 unfold Cls.ok at h
 refine nw (cs := [.int .i64 c.size, .int .i64 c.pages, .int .i64 c.batch]) fun h1 hz e hb => ?_
 refine hb.rI rfl (hb.rI rfl (hb.rI rfl (WeZ _ _ _ fun h2 e2 => ?_)))
 rw [(UR c).2 hc]
 have hb2 := e2.blk hb id
 refine ifF rfl ?_
 refine ⟨fun h' => Blk h' U.size [.int .i64 c.size, .int .i64 c.pages, .int .i64 c.batch], hb2, ⟨_, fun h' hS => by rw [add_lit, hS.cell]; rfl, ?_⟩⟩
 refine arN (m := c.pages * 256) (by simp) (by omega) ?_
 refine ⟨_, fun h' hS => by rw [add_lit, hS.cell]; rfl, ⟨_, fun h' hS => by rw [add_lit, hS.cell]; rfl, ⟨_, fun h' hS => by rw [add_lit, hS.cell]; rfl, ⟨_, fun h' hS => by rw [add_lit, hS.cell]; rfl, ?_⟩⟩⟩⟩
 refine HT hc fun h3 e3 => ⟨e3.blk hb2 id, ?_⟩
 have hm := c.n_mul
 refine arN (m := c.n * c.size) (by simp) (by omega) (arN (m := c.tail) (by unfold Cls.tail; omega) (by unfold Cls.tail; omega) (hR _ ((e.trans e2).trans e3)))
end Go.Ar
namespace Go.Bu


def full (S : Nat -> Bool) (k q : Nat) : Bool := (List.range (2 ^ k)).all fun i => S (q * 2 ^ k + i)
def can (S : Nat -> Bool) (k q : Nat) : Bool := full S k q && !full S (k + 1) (q / 2)
theorem VL {k q i : Nat} (hi : i < 2 ^ k) : (q * 2 ^ k + i) / 2 ^ k = q := by
 rw [Nat.add_comm, Nat.add_mul_div_right _ _ (Nat.two_pow_pos k), Nat.div_eq_of_lt hi, Nat.zero_add]
theorem Ur {k q p : Nat} (h : p / 2 ^ k = q) : p = q * 2 ^ k + p % 2 ^ k := by
 rw [← h, Nat.mul_comm]; exact (Nat.div_add_mod p (2 ^ k)).symm
theorem Zo {k q p : Nat} : p / 2 ^ k = q ↔ q * 2 ^ k <= p /\ p < q * 2 ^ k + 2 ^ k := by
 have hk := Nat.two_pow_pos k
 constructor
 ·intro h
  have := Ur h
  have hm := Nat.mod_lt p hk
  omega
 ·rintro ⟨h1, h2⟩
  have : p = q * 2 ^ k + (p - q * 2 ^ k) := by omega
  rw [this]
  exact VL (by omega)
theorem Yv {S : Nat -> Bool} {k q : Nat} : full S k q = true ↔ ∀ p, p / 2 ^ k = q -> S p = true := by
 simp only [full, List.all_eq_true, List.mem_range]
 constructor
 ·intro h p hp
  have := h (p % 2 ^ k) (Nat.mod_lt _ (Nat.two_pow_pos k))
  rwa [← Ur hp] at this
 ·intro h i hi
  exact h _ (VL hi)
theorem Y4 {S : Nat -> Bool} {k q : Nat} : can S k q = true ↔ full S k q = true /\ ¬ full S (k + 1) (q / 2) = true := by
 simp [can]
theorem Hj {p k j : Nat} (h : k <= j) : p / 2 ^ j = p / 2 ^ k / 2 ^ (j - k) := by
 rw [Nat.div_div_eq_div_mul, ← Nat.pow_add]
 congr 2; omega
theorem Waw {S : Nat -> Bool} {k j q : Nat} (h : k <= j) (hf : full S j (q / 2 ^ (j - k)) = true) : full S k q = true := by
 rw [Yv] at hf ⊢
 intro p hp
 exact hf p (by rw [Hj h, hp])
theorem Wek {q k j : Nat} (h : k < j) : q / 2 / 2 ^ (j - (k + 1)) = q / 2 ^ (j - k) := by
 rw [Nat.div_div_eq_div_mul]
 congr 1
 rw [← Nat.pow_succ']
 congr 1; omega
theorem ZU {S : Nat -> Bool} {k j q r p : Nat} (hk : can S k q = true) (hj : full S j r = true) (hp : p / 2 ^ k = q) (hr : p / 2 ^ j = r) (h : k < j) : False := by
 rw [Y4] at hk
 refine hk.2 (Waw (j := j) (by omega) ?_)
 rw [Wek h, ← hp, ← Hj (Nat.le_of_lt h), hr]
 exact hj
theorem Uh {S : Nat -> Bool} {k j q r p : Nat} (hk : can S k q = true) (hj : can S j r = true) (hp : p / 2 ^ k = q) (hr : p / 2 ^ j = r) : k = j /\ q = r := by
 rcases Nat.lt_trichotomy k j with h | h | h
 ·exact (ZU hk (Y4.1 hj).1 hp hr h).elim
 ·subst h; exact ⟨rfl, hp.symm.trans hr⟩
 ·exact (ZU hj (Y4.1 hk).1 hr hp h).elim
def Bounded (S : Nat -> Bool) (n : Nat) : Prop := ∀ p, S p = true -> p < n
theorem Zd {S : Nat -> Bool} {n k q : Nat} (hb : Bounded S n) (h : full S k q = true) : q * 2 ^ k + 2 ^ k <= n := by
 rw [Yv] at h
 have hk := Nat.two_pow_pos k
 have := hb _ (h (q * 2 ^ k + (2 ^ k - 1)) (VL (by omega)))
 omega
theorem WeW {S : Nat -> Bool} {p : Nat} : full S 0 p = S p := by simp [full]
theorem Km {S : Nat -> Bool} {n p : Nat} (hb : Bounded S n) (hp : S p = true) : ∃ k, can S k (p / 2 ^ k) = true := by
 apply Classical.byContradiction
 intro hno
 have all : ∀ k, full S k (p / 2 ^ k) = true := by
  intro k
  induction k with
  | zero => simpa [WeW] using hp
  | succ k ih =>
   apply Classical.byContradiction
   intro hn
   refine hno ⟨k, Y4.2 ⟨ih, ?_⟩⟩
   rw [Nat.div_div_eq_div_mul, ← Nat.pow_succ]
   exact hn
 have := Zd hb (all n)
 have := @Nat.lt_two_pow_self n
 omega
theorem QH {S : Nat -> Bool} {k q p : Nat} (h : can S k q = true) (hp : p / 2 ^ k = q) : S p = true := Yv.1 (Y4.1 h).1 p hp
def del (S : Nat -> Bool) (k q : Nat) : Nat -> Bool := fun p => S p && !(p / 2 ^ k == q)
def ins (S : Nat -> Bool) (k q : Nat) : Nat -> Bool := fun p => S p || p / 2 ^ k == q
theorem Q2 {S : Nat -> Bool} {k q p : Nat} : del S k q p = true ↔ S p = true /\ p / 2 ^ k ≠ q := by simp [del]
theorem Q7 {S : Nat -> Bool} {k q p : Nat} : ins S k q p = true ↔ S p = true ∨ p / 2 ^ k = q := by simp [ins]
theorem Qz (k q : Nat) : (q * 2 ^ k) / 2 ^ k = q := Nat.mul_div_cancel _ (Nat.two_pow_pos k)
theorem WbB {S : Nat -> Bool} {k q j r : Nat} (hc : can S k q = true) : can (del S k q) j r = true ↔ can S j r = true /\ ¬ (j = k /\ r = q) := by
 constructor
 ·intro h
  obtain ⟨hf, hn⟩ := Y4.1 h
  rw [Yv] at hf
  have hfS : full S j r = true := Yv.2 fun p hp => (Q2.1 (hf p hp)).1
  refine ⟨Y4.2 ⟨hfS, fun hup => hn (Yv.2 fun p hp => ?_)⟩, ?_⟩
  ·refine Q2.2 ⟨Yv.1 hup p hp, fun hpq => ?_⟩
   rcases Nat.lt_or_ge k (j + 1) with h1 | h1
   ·exact ZU hc hup hpq hp h1
   ·-- the greater Y3 lies in the block
    have hfirst := Qz j r
    have hm := (Q2.1 (hf _ hfirst)).2
    apply hm
    rw [Hj (show j + 1 <= k by omega)]
    have e : r * 2 ^ j / 2 ^ (j + 1) = r / 2 := by
     rw [Nat.pow_succ, ← Nat.div_div_eq_div_mul, hfirst]
    rw [e, ← hp, ← Hj (show j + 1 <= k by omega), hpq]
  ·rintro ⟨rfl, rfl⟩
   exact (Q2.1 (hf _ (Qz _ _))).2 (Qz _ _)
 ·rintro ⟨h, hne⟩
  obtain ⟨hf, hn⟩ := Y4.1 h
  refine Y4.2 ⟨Yv.2 fun p hp => Q2.2 ⟨Yv.1 hf p hp, fun hpq => hne ?_⟩, fun hup => hn (Yv.2 fun p hp => (Q2.1 (Yv.1 hup p hp)).1)⟩
  obtain ⟨h1, h2⟩ := Uh h hc hp hpq
  exact ⟨h1, h2⟩
theorem Gy {S : Nat -> Bool} {k q j r : Nat} (hd : ∀ p, p / 2 ^ k = q -> S p = false) (hup : ¬ full (ins S k q) (k + 1) (q / 2) = true) :
 can (ins S k q) j r = true ↔ can S j r = true ∨ (j = k /\ r = q) := by
 have hcP : can (ins S k q) k q = true := Y4.2 ⟨Yv.2 fun p hp => Q7.2 (.inr hp), hup⟩
 constructor
 ·intro h
  by_cases he : j = k /\ r = q
  ·exact .inr he
  left
  obtain ⟨hf, hn⟩ := Y4.1 h
  refine Y4.2 ⟨Yv.2 fun p hp => ?_, fun hup' => hn (Yv.2 fun p hp => Q7.2 (.inl (Yv.1 hup' p hp)))⟩
  rcases Q7.1 (Yv.1 hf p hp) with h1 | h1
  ·exact h1
  ·exact (he (Uh h hcP hp h1)).elim
 ·rintro (h | ⟨rfl, rfl⟩)
  ·obtain ⟨hf, hn⟩ := Y4.1 h
   refine Y4.2 ⟨Yv.2 fun p hp => Q7.2 (.inl (Yv.1 hf p hp)), fun hup' => hn (Yv.2 fun p hp => ?_)⟩
   rcases Q7.1 (Yv.1 hup' p hp) with h1 | h1
   ·exact h1
   ·rcases Nat.lt_or_ge k (j + 1) with h2 | h2
    ·refine (hup (Waw (j := j + 1) (by omega) ?_)).elim
     have e : q / 2 ^ (j + 1 - k) = r / 2 := by rw [← h1, ← Hj (show k <= j + 1 by omega), hp]
     rw [Wek h2, e]
     exact hup'
    ·have hfirst := Qz j r
     have hs := Yv.1 hf _ hfirst
     have e : r * 2 ^ j / 2 ^ (j + 1) = r / 2 := by
      rw [Nat.pow_succ, ← Nat.div_div_eq_div_mul, hfirst]
     have : r * 2 ^ j / 2 ^ k = q := by
      rw [Hj h2, e, ← hp, ← Hj h2, h1]
     rw [hd _ this] at hs
     cases hs
  ·exact hcP
def mate (q : Nat) : Nat := if q % 2 = 0 then q + 1 else q - 1
theorem WaF (q : Nat) : mate q / 2 = q / 2 := by unfold mate; split <;> omega
theorem Wh9 (q : Nat) : mate q ≠ q := by unfold mate; split <;> omega
theorem Wfu {q r : Nat} (h : r / 2 = q / 2) : r = q ∨ r = mate q := by unfold mate; split <;> omega
theorem VK {k q p : Nat} : p / 2 ^ (k + 1) = q / 2 ↔ p / 2 ^ k = q ∨ p / 2 ^ k = mate q := by
 rw [Nat.pow_succ, ← Nat.div_div_eq_div_mul]
 constructor
 ·intro h; exact Wfu h
 ·rintro (h | h) <;> rw [h]
  exact WaF q
theorem WhA {T : Nat -> Bool} {k q : Nat} (hd : ∀ p, p / 2 ^ k = q -> T p = false) (hm : ¬ can T k (mate q) = true) : ¬ full (ins T k q) (k + 1) (q / 2) = true := by
 intro hup
 have hmf : full T k (mate q) = true := Yv.2 fun p hp => by
  rcases Q7.1 (Yv.1 hup p (VK.2 (.inr hp))) with h | h
  ·exact h
  ·exact (Wh9 q (hp.symm.trans h)).elim
 have : full T (k + 1) (mate q / 2) = true := Classical.byContradiction fun h => hm (Y4.2 ⟨hmf, h⟩)
 rw [WaF] at this
 have h1 := Yv.1 this (q * 2 ^ k) (VK.2 (.inl (Qz k q)))
 rw [hd _ (Qz k q)] at h1
 cases h1
def give (S : Nat -> Bool) (a b : Nat) : Nat -> Bool := fun p => S p || (decide (a <= p) && decide (p < b))
def take (S : Nat -> Bool) (a b : Nat) : Nat -> Bool := fun p => S p && !(decide (a <= p) && decide (p < b))
theorem Qg {S : Nat -> Bool} {a b p : Nat} : give S a b p = true ↔ S p = true ∨ (a <= p /\ p < b) := by simp [give]
theorem Qb {S : Nat -> Bool} {a b p : Nat} : take S a b p = true ↔ S p = true /\ ¬ (a <= p /\ p < b) := by
 simp [take]; intro _; omega
theorem UV {S T : Nat -> Bool} (h : ∀ p, S p = true ↔ T p = true) : S = T := by
 funext p
 have := h p
 cases hs : S p <;> cases ht : T p <;> simp_all
theorem WfF (S : Nat -> Bool) (k q : Nat) : ins S k q = give S (q * 2 ^ k) (q * 2 ^ k + 2 ^ k) :=
 UV fun p => by rw [Q7, Qg, Zo]
theorem Weu {S : Nat -> Bool} {a b c : Nat} (h1 : a <= b) (h2 : b <= c) : give (give S a b) b c = give S a c :=
 UV fun p => by simp only [Qg]; cases S p <;> simp <;> omega
theorem WfA (S : Nat -> Bool) (a : Nat) : give S a a = S := UV fun p => by simp only [Qg]; cases S p <;> simp <;> omega
theorem WgJ (S : Nat -> Bool) (a : Nat) : take S a a = S := UV fun p => by simp only [Qb]; cases S p <;> simp <;> omega
def cnt (n : Nat) (S : Nat -> Bool) : Nat := (List.range n).countP S
theorem Wic (k m : Nat) (f : Nat -> Bool) : (List.range (m * 2 ^ k)).countP (fun p => f (p / 2 ^ k)) = 2 ^ k * (List.range m).countP f := by
 induction m with
 | zero => simp
 | succ m ih =>
  rw [Nat.succ_mul, List.range_add, List.countP_append, ih, List.countP_map, List.range_succ, List.countP_append]
  have : ((List.range (2 ^ k)).countP ((fun p => f (p / 2 ^ k)) ∘ fun x => m * 2 ^ k + x)) = 2 ^ k * (if f m then 1 else 0) := by
   have e : ∀ x ∈ List.range (2 ^ k), ((fun p => f (p / 2 ^ k)) ∘ fun x => m * 2 ^ k + x) x = f m := by
    intro x hx
    simp only [Function.comp]
    rw [VL (List.mem_range.1 hx)]
   rw [List.countP_congr (q := fun _ => f m) (fun x hx => by rw [e x hx])]
   cases f m <;> simp
  rw [this, Nat.mul_add]
  simp only [List.countP_cons, List.countP_nil, Nat.zero_add]
theorem Wie {n m : Nat} {S : Nat -> Bool} (h : n <= m) (hb : ∀ p, S p = true -> p < n) : (List.range m).countP S = (List.range n).countP S := by
 obtain ⟨d, rfl⟩ := Nat.exists_eq_add_of_le h
 rw [List.range_add, List.countP_append, List.countP_map]
 have : (List.range d).countP (S ∘ fun x => n + x) = 0 := by
  rw [List.countP_eq_zero]
  intro x _ hx
  have : n + x < n := hb _ hx
  omega
 omega
def many (n : Nat) (S : Nat -> Bool) (k : Nat) : Nat := (List.range n).countP (can S k)
def sums (n : Nat) (S : Nat -> Bool) : Nat -> Nat
 | 0 => 0
 | k + 1 => sums n S k + many n S k * 2 ^ k
theorem countP_add {α : Type} (l : List α) (f g h : α -> Bool) (e : ∀ x ∈ l, (f x).toNat + (g x).toNat = (h x).toNat) : l.countP f + l.countP g = l.countP h := by
 induction l with
 | nil => rfl
 | cons x l ih =>
  have hx := e x (by simp)
  have := ih fun y hy => e y (by simp [hy])
  simp only [List.countP_cons]
  cases hf : f x <;> cases hg : g x <;> cases hh : h x <;> simp [hf, hg, hh] at hx ⊢ <;> omega
def below (S : Nat -> Bool) (K p : Nat) : Bool := (List.range K).any fun k => can S k (p / 2 ^ k)
theorem V8 {n : Nat} {S : Nat -> Bool} (hb : Bounded S n) : ∀ K, sums n S K = (List.range n).countP (below S K)
 | 0 => by
  simp only [sums]
  symm
  rw [List.countP_eq_zero]
  simp [below]
 | K + 1 => by
  rw [sums, V8 hb K]
  have hm : many n S K * 2 ^ K = (List.range n).countP (fun p => can S K (p / 2 ^ K)) := by
   have h1 := Wic K n (can S K)
   have h2 : n <= n * 2 ^ K := Nat.le_mul_of_pos_right _ (Nat.two_pow_pos K)
   rw [Wie h2 (fun p hp => hb p (QH hp rfl))] at h1
   rw [h1, Nat.mul_comm]; rfl
  rw [hm]
  apply countP_add
  intro p _
  have e : below S (K + 1) p = (below S K p || can S K (p / 2 ^ K)) := by
   simp [below, List.range_succ, List.any_append]
  rw [e]
  cases h1 : below S K p <;> cases h2 : can S K (p / 2 ^ K) <;> simp
  simp only [below, List.any_eq_true, List.mem_range] at h1
  obtain ⟨k, hk, hc⟩ := h1
  have := Uh hc h2 rfl rfl
  omega
theorem WgG {n K : Nat} {S : Nat -> Bool} (hb : Bounded S n) (hK : n < 2 ^ K) : sums n S K = cnt n S := by
 rw [V8 hb]
 apply List.countP_congr
 intro p _
 simp only [below, List.any_eq_true, List.mem_range]
 constructor
 ·rintro ⟨k, _, hc⟩
  exact QH hc rfl
 ·intro hp
  obtain ⟨k, hc⟩ := Km hb hp
  refine ⟨k, ?_, hc⟩
  have := Zd hb (Y4.1 hc).1
  apply Classical.byContradiction
  intro hk
  have : 2 ^ K <= 2 ^ k := Nat.pow_le_pow_right (by omega) (by omega)
  omega
end Go.Bu
namespace Go.Bu
open Go Go.Vc


theorem WaM {a b : Nat} (ha : a < 9223372036854775808) (hb : b < 9223372036854775808) : bits .xor .i64 (a : Int) (b : Int) = ((a ^^^ b : Nat) : Int) := by
 have hx : a ^^^ b < 2 ^ 63 := Nat.xor_lt_two_pow (by omega) (by omega)
 have h1 : (BitVec.ofInt 64 (a : Int)).toNat = a := by
  rw [BitVec.ofInt_natCast, BitVec.toNat_ofNat]; exact Nat.mod_eq_of_lt (by omega)
 have h2 : (BitVec.ofInt 64 (b : Int)).toNat = b := by
  rw [BitVec.ofInt_natCast, BitVec.toNat_ofNat]; exact Nat.mod_eq_of_lt (by omega)
 show IntKind.i64.wrap ((BitVec.ofInt 64 (a : Int) ^^^ BitVec.ofInt 64 (b : Int)).toNat : Int) = _
 rw [BitVec.toNat_xor, h1, h2, UB] <;> omega
theorem Wac {a b : Nat} (ha : a < 9223372036854775808) (hb : b < 9223372036854775808) : bits .and .i64 (a : Int) (b : Int) = ((a &&& b : Nat) : Int) := by
 have hx : a &&& b < 2 ^ 63 := Nat.and_lt_two_pow _ (by omega)
 have h1 : (BitVec.ofInt 64 (a : Int)).toNat = a := by
  rw [BitVec.ofInt_natCast, BitVec.toNat_ofNat]; exact Nat.mod_eq_of_lt (by omega)
 have h2 : (BitVec.ofInt 64 (b : Int)).toNat = b := by
  rw [BitVec.ofInt_natCast, BitVec.toNat_ofNat]; exact Nat.mod_eq_of_lt (by omega)
 show IntKind.i64.wrap ((BitVec.ofInt 64 (a : Int) &&& BitVec.ofInt 64 (b : Int)).toNat : Int) = _
 rw [BitVec.toNat_and, h1, h2, UB] <;> omega
theorem WhX (q : Nat) : q ^^^ 1 = mate q := by
 apply Nat.eq_of_testBit_eq
 intro i
 rw [Nat.testBit_xor]
 unfold mate
 cases i with
 | zero =>
  simp only [Nat.testBit_zero]
  split <;> rename_i h
  ·have : (q + 1) % 2 = 1 := by omega
   simp [h, this]
  ·have h1 : q % 2 = 1 := by omega
   have : (q - 1) % 2 = 0 := by omega
   simp [h1, this]
 | succ i =>
  simp only [Nat.testBit_succ]
  have h0 : (1 : Nat) / 2 = 0 := by decide
  rw [h0, Nat.zero_testBit, Bool.xor_false]
  congr 1
  split <;> omega
theorem WgI (q k : Nat) : (q * 2 ^ k) ^^^ (2 ^ k) = mate q * 2 ^ k := by
 have h := Nat.shiftLeft_xor_distrib (a := q) (b := 1) (i := k)
 rw [WhX, Nat.shiftLeft_eq, Nat.shiftLeft_eq, Nat.shiftLeft_eq, Nat.one_mul] at h
 exact h.symm
theorem War {k : Nat} (h : k <= 62) : 2 ^ k <= 4611686018427387904 := Nat.pow_le_pow_right (n := 2) (by decide) h
def Keys (S : Nat -> Bool) (k : Nat) (B : List (Int × Bool)) : Prop :=
 (∀ x v, (x, v) ∈ B -> v = true /\ ∃ q : Nat, x = ((q * 2 ^ k : Nat) : Int) /\ can S k q = true) /\ ∀ q, can S k q = true -> (((q * 2 ^ k : Nat) : Int), true) ∈ B
structure BH (U : Hp) (p n : Nat) (S : Nat -> Bool) (sb : Nat) (ms : List Nat) : Prop where
 hd : ∃ cap, Blk U p [.int .i64 n, .slice (some ⟨sb, 0, none⟩) ms.length cap]
 row : ∃ rest, Blk U sb (ms.map (fun m => Value.map (some m)) ++ rest)
 maps : ∀ k m, ms[k]? = some m -> ∃ B : List (Int × Bool), MapL U m .i64 .b B /\ Keys S k B
 nd : (p :: sb :: ms).Nodup
 n1 : 1 <= n
 n2 : n <= 1024
 lo : 2 ^ ms.length <= 2 * n
 hi : n < 2 ^ ms.length
 bnd : Bounded S n
def fp (p sb : Nat) (ms : List Nat) (b : Nat) : Prop := b ∈ p :: sb :: ms
variable {U h' : Hp} {p n sb : Nat} {S : Nat -> Bool} {ms : List Nat}
theorem BH.len (h : BH U p n S sb ms) : ms.length <= 11 := by
 have := h.lo
 have := h.n2
 apply Classical.byContradiction
 intro hc
 have : 2 ^ 12 <= 2 ^ ms.length := Nat.pow_le_pow_right (by decide) (by omega)
 omega
theorem BH.len1 (h : BH U p n S sb ms) : 1 <= ms.length := by
 have h1 := h.hi
 have h2 := h.n1
 rcases Nat.eq_zero_or_pos ms.length with e | e
 ·rw [e] at h1; simp at h1; omega
 ·exact e
theorem BH.fits (h : BH U p n S sb ms) {k q : Nat} (hf : q * 2 ^ k + 2 ^ k <= n) : k < ms.length := by
 apply Classical.byContradiction
 intro hc
 have : 2 ^ ms.length <= 2 ^ k := Nat.pow_le_pow_right (by decide) (by omega)
 have := h.hi
 omega
theorem BH.ldN (h : BH U p n S sb ms) : cell U ⟨p, 0, none⟩ = some (.int .i64 n) := by
 obtain ⟨cap, hb⟩ := h.hd; rw [hb.cell]; rfl
theorem BH.ldB (h : BH U p n S sb ms) : ∃ cap, cell U ⟨p, 1, none⟩ = some (.slice (some ⟨sb, 0, none⟩) ms.length cap) := by
 obtain ⟨cap, hb⟩ := h.hd; exact ⟨cap, by rw [hb.cell]; rfl⟩
theorem BH.ldR (h : BH U p n S sb ms) {k m : Nat} (hm : ms[k]? = some m) : cell U ⟨sb, k, none⟩ = some (.map (some m)) := by
 obtain ⟨rest, hb⟩ := h.row
 rw [hb.cell, List.getElem?_append_left (by simpa using (gSi.1 hm).1), List.getElem?_map, hm]
 rfl
theorem BH.get (h : BH U p n S sb ms) {k : Nat} (hk : k < ms.length) : ∃ m, ms[k]? = some m := ⟨ms[k], by simp [hk]⟩
theorem BH.keep (h : BH U p n S sb ms) {F : Nat -> Prop} (e : Ext F U h') (hF : ∀ b, fp p sb ms b -> ¬ F b) : BH h' p n S sb ms where
 hd := by obtain ⟨cap, hb⟩ := h.hd; exact ⟨cap, e.blk hb (hF _ (by simp [fp]))⟩
 row := by obtain ⟨rest, hb⟩ := h.row; exact ⟨rest, e.blk hb (hF _ (by simp [fp]))⟩
 maps := fun k m hm => by
  obtain ⟨B, hB, hk⟩ := h.maps k m hm
  exact ⟨B, e.mapL hB (hF _ (by simp [fp, List.mem_of_getElem? hm])), hk⟩
 nd := h.nd
 n1 := h.n1
 n2 := h.n2
 lo := h.lo
 hi := h.hi
 bnd := h.bnd
theorem BH.keep0 (h : BH U p n S sb ms) (e : Ext0 U h') : BH h' p n S sb ms := h.keep e fun _ _ => id
theorem Wfo {k : Nat} {B : List (Int × Bool)} (hK : Keys S k B) (hn : (B.map (·.1)).Nodup) (q : Nat) : mget B ((q * 2 ^ k : Nat) : Int) = if can S k q then some true else none := by
 unfold mget
 cases hf : B.find? fun x => x.1 == ((q * 2 ^ k : Nat) : Int) with
 | some x =>
  have h1 := List.find?_some hf
  have hmem := List.mem_of_find?_eq_some hf
  obtain ⟨x1, x2⟩ := x
  obtain ⟨hv, q', hx, hc⟩ := hK.1 x1 x2 hmem
  have h1' : x1 = ((q * 2 ^ k : Nat) : Int) := by simpa using h1
  rw [h1'] at hx
  have : q * 2 ^ k = q' * 2 ^ k := by exact_mod_cast hx
  have := Nat.eq_of_mul_eq_mul_right (Nat.two_pow_pos k) this
  subst this
  subst hv
  simp [hc]
 | none =>
  rw [List.find?_eq_none] at hf
  by_cases hc : can S k q = true
  ·have := hf _ (hK.2 q hc)
   simp at this
  ·simp [hc]
theorem BH.lk (h : BH U p n S sb ms) {k m q : Nat} (hm : ms[k]? = some m) {x : Int} (hx : x = ((q * 2 ^ k : Nat) : Int)) {K : Option Bool -> Prop}
 (hK : K (if can S k q then some true else none)) : Lk .i64 .b (some m) x U K := by
 obtain ⟨B, hB, hk⟩ := h.maps k m hm
 exact ⟨B, hB, by rw [hx, Wfo hk hB.nodup]; exact hK⟩
theorem Gb {k : Nat} {B : List (Int × Bool)} (hK : Keys S k B) (hn : (B.map (·.1)).Nodup) (hb : Bounded S n) : B.length = many n S k := by
 have hp : (B.map (·.1)).Perm (((List.range n).filter (can S k)).map fun q => ((q * 2 ^ k : Nat) : Int)) := by
  rw [List.perm_ext_iff_of_nodup hn]
  ·intro x
   simp only [List.mem_map, List.mem_filter, List.mem_range]
   constructor
   ·rintro ⟨⟨x1, x2⟩, hm, rfl⟩
    obtain ⟨_, q, hx, hc⟩ := hK.1 x1 x2 hm
    refine ⟨q, ⟨?_, hc⟩, hx.symm⟩
    have := Zd hb (Y4.1 hc).1
    have h1 := Nat.two_pow_pos k
    have h2 : q <= q * 2 ^ k := Nat.le_mul_of_pos_right _ h1
    omega
   ·rintro ⟨q, ⟨_, hc⟩, rfl⟩
    exact ⟨_, hK.2 q hc, rfl⟩
  ·have hnd : ((List.range n).filter (can S k)).Pairwise (· ≠ ·) := List.Pairwise.sublist List.filter_sublist List.nodup_range
   refine List.Pairwise.map _ (fun a b (hne : a ≠ b) hab => hne ?_) hnd
   have : a * 2 ^ k = b * 2 ^ k := by exact_mod_cast hab
   exact Nat.eq_of_mul_eq_mul_right (Nat.two_pow_pos k) this
 have := hp.length_eq
 simp only [List.length_map] at this
 rw [this, many, List.countP_eq_length_filter]
theorem BH.mlen (h : BH U p n S sb ms) {k m : Nat} (hm : ms[k]? = some m) {K : Int -> Prop} (hK : K ((many n S k : Nat) : Int)) : MLen .i64 .b (some m) U K := by
 obtain ⟨B, hB, hk⟩ := h.maps k m hm
 exact ⟨B, hB, by rw [Gb hk hB.nodup h.bnd]; exact hK⟩
theorem BH.turn (h : BH U p n S sb ms) {k m : Nat} {T : Nat -> Bool} (hm : ms[k]? = some m) (ho : Z5 U h' m) {B' : List (Int × Bool)} (hB' : MapL h' m .i64 .b B') (hK' : Keys T k B')
 (hoth : ∀ j q, j ≠ k -> can T j q = can S j q) (hT : Bounded T n) : BH h' p n T sb ms where
 hd := by
  obtain ⟨cap, hb⟩ := h.hd
  refine ⟨cap, Xc ho hb ?_⟩
  have := h.nd; simp only [List.nodup_cons, List.mem_cons, not_or] at this
  rintro rfl; exact this.1.2 (List.mem_of_getElem? hm)
 row := by
  obtain ⟨rest, hb⟩ := h.row
  refine ⟨rest, Xc ho hb ?_⟩
  have := h.nd; simp only [List.nodup_cons, List.mem_cons, not_or] at this
  rintro rfl; exact this.2.1 (List.mem_of_getElem? hm)
 maps := fun j m' hm' => by
  by_cases e : j = k
  ·subst e
   rw [hm] at hm'; cases hm'
   exact ⟨B', hB', hK'⟩
  ·obtain ⟨B, hB, hKj⟩ := h.maps j m' hm'
   refine ⟨B, QQ ho hB ?_, ?_⟩
   ·rintro rfl
    have hnd := h.nd
    simp only [List.nodup_cons] at hnd
    exact e ((List.getElem?_inj (gSi.1 hm').1 hnd.2.2).1 (hm'.trans hm.symm))
   ·refine ⟨fun x v hx => ?_, fun q hq => hKj.2 q (by rw [← hoth j q e]; exact hq)⟩
    obtain ⟨hv, q, hxq, hc⟩ := hKj.1 x v hx
    exact ⟨hv, q, hxq, by rw [hoth j q e]; exact hc⟩
 nd := h.nd
 n1 := h.n1
 n2 := h.n2
 lo := h.lo
 hi := h.hi
 bnd := hT
theorem Whi (hb : Bounded S n) (k q : Nat) : Bounded (del S k q) n := fun x hx => hb x (Q2.1 hx).1
theorem Wd1 (hb : Bounded S n) {k q : Nat} (hf : q * 2 ^ k + 2 ^ k <= n) : Bounded (ins S k q) n := fun x hx => by
 rcases Q7.1 hx with h | h
 ·exact hb x h
 ·have := Zo.1 h; omega
theorem WeJ {a b : Bool} (h : a = true ↔ b = true) : a = b := by cases a <;> cases b <;> simp_all
theorem BH.mdelR (h : BH U p n S sb ms) {k m q : Nat} (hm : ms[k]? = some m) (hc : can S k q = true) {x : Int} (hx : x = ((q * 2 ^ k : Nat) : Int)) {K : Hp -> Prop}
 (hK : ∀ h', Ext (· ∈ ms) U h' -> BH h' p n (del S k q) sb ms -> K h') : MDel .i64 .b (some m) x U K := by
 obtain ⟨B, hB, hk⟩ := h.maps k m hm
 refine ⟨B, hB, fun h' ho _ hB' => hK h' (Ext.of_only (ho m rfl) (List.mem_of_getElem? hm)) ?_⟩
 refine h.turn hm (ho m rfl) hB' ⟨fun y v hy => ?_, fun r hr => ?_⟩ (fun j r hj => WeJ ?_) (Whi h.bnd k q)
 ·simp only [mdel, List.mem_filter, Bool.not_eq_true', beq_eq_false_iff_ne] at hy
  obtain ⟨hv, r, hyr, hcr⟩ := hk.1 y v hy.1
  refine ⟨hv, r, hyr, (WbB hc).2 ⟨hcr, fun e => hy.2 ?_⟩⟩
  rw [hyr, hx, e.2]
 ·have hr' := (WbB hc).1 hr
  simp only [mdel, List.mem_filter, Bool.not_eq_true', beq_eq_false_iff_ne]
  refine ⟨hk.2 r hr'.1, fun e => hr'.2 ⟨rfl, ?_⟩⟩
  rw [hx] at e
  have : r * 2 ^ k = q * 2 ^ k := by exact_mod_cast e
  exact Nat.eq_of_mul_eq_mul_right (Nat.two_pow_pos k) this
 ·rw [WbB hc]
  exact ⟨fun h => h.1, fun h => ⟨h, fun e => hj e.1⟩⟩
theorem BH.msetR (h : BH U p n S sb ms) {k m q : Nat} (hm : ms[k]? = some m) (hd : ∀ y, y / 2 ^ k = q -> S y = false) (hup : ¬ full (ins S k q) (k + 1) (q / 2) = true) (hf : q * 2 ^ k + 2 ^ k <= n)
 {x : Int} (hx : x = ((q * 2 ^ k : Nat) : Int)) {K : Hp -> Prop} (hK : ∀ h', Ext (· ∈ ms) U h' -> BH h' p n (ins S k q) sb ms -> K h') : MSet .i64 .b (some m) x true U K := by
 obtain ⟨B, hB, hk⟩ := h.maps k m hm
 refine ⟨m, B, rfl, hB, fun h' ho hB' => hK h' (Ext.of_only ho (List.mem_of_getElem? hm)) ?_⟩
 have hnew : ∀ y ∈ B, (y.1 == x) = false := by
  rintro ⟨y, v⟩ hy
  obtain ⟨_, r, hyr, hcr⟩ := hk.1 y v hy
  simp only [beq_eq_false_iff_ne]
  rintro rfl
  rw [hx] at hyr
  have : q * 2 ^ k = r * 2 ^ k := by exact_mod_cast hyr
  have := Nat.eq_of_mul_eq_mul_right (Nat.two_pow_pos k) this
  subst this
  have h1 := QH hcr (Qz k q)
  rw [hd _ (Qz k q)] at h1
  cases h1
 have hset : mset B x true = B ++ [(x, true)] := by
  unfold mset
  rw [if_neg]
  simp only [Bool.not_eq_true, List.any_eq_false]
  intro y hy; simp [hnew y hy]
 refine h.turn hm ho hB' ?_ (fun j r hj => WeJ ?_) (Wd1 h.bnd hf)
 ·rw [hset]
  refine ⟨fun y v hy => ?_, fun r hr => ?_⟩
  ·simp only [List.mem_append, List.mem_singleton, Prod.mk.injEq] at hy
   rcases hy with hy | ⟨rfl, rfl⟩
   ·obtain ⟨hv, r, hyr, hcr⟩ := hk.1 y v hy
    exact ⟨hv, r, hyr, (Gy hd hup).2 (.inl hcr)⟩
   ·exact ⟨rfl, q, hx, (Gy hd hup).2 (.inr ⟨rfl, rfl⟩)⟩
  ·rcases (Gy hd hup).1 hr with h1 | ⟨_, rfl⟩
   ·exact List.mem_append_left _ (hk.2 r h1)
   ·rw [hx]; exact List.mem_append_right _ (by simp)
 ·rw [Gy hd hup]
  exact ⟨fun h => h.elim id fun e => (hj e.1).elim, .inl⟩
end Go.Bu
namespace Go.Proofs
open Go.Vc

set_option maxRecDepth 100000
def YN.hint : Hn := .q (.o 1) (.q (.q (.o 3) (.c (.q (.o 1) (.l)) (.l))) (.q (.o 1) (.q (.q (.o 6) (.k (.loop [(3, .one (.i .i64)), (14, .one (.i .i64))] (.q (.o 1) (.q (.c (.l) (.l)) (.q (.k (.q (.o 5) (.o 7))) (.o 2))))))) (.q (.o 2) (.l)))))
def YN.vc (vh : Option Addr) (U : Hp) (R : Int -> Hp -> Prop) : Prop :=
 Xx.call vh U fun t7 v =>
 If (!t7) (R 0 v)
 (NilP vh fun a10 =>
 LdS (a10.add 1) v fun t12 =>
 Xe [(.i .i64), (.i .i64)] (fun I => I 0 0 v) fun J (n : Int) (t14 : Int) v1 =>
 If (decide (t14 < ((t12.len : Nat) : Int))) (Ix t12.a t12.len t14 1 fun a17 =>
 LdM a17 v1 fun l =>
 MLen .i64 .b l v1 fun t21 =>
 Nn t14 <| Ar .i64 (t21 * 2 ^ (min t14.toNat IntKind.i64.bits)) fun t23 =>
 Ar .i64 (n + t23) fun n1 =>
 Ar .i64 (t14 + 1) fun t25 =>
 J n1 t25 v1)
 (R n v1))
theorem YN.of_vc {vh U R} (hv : YN.vc vh U R) : YN.call vh U R :=
 Wa Tryz.func62 (x := YN.hint) (Eq.mpr (by kernel_rfl) hv)
def Xv.hint : Hn := .q (.o 1) (.q (.q (.o 5) (.q (.o 2) (.c (.q (.o 2) (.l)) (.l)))) (.q (.q (.o 2) (.k (.loop [(8, .one (.i .i64))] (.q (.q (.o 5) (.c (.l) (.l))) (.q (.k (.q (.o 4) (.c (.q (.o 1) (.l)) (.l)))) (.o 3)))))) (.q (.o 4) (.q (.o 1) (.l)))))
def Xv.vc (vh : Option Addr) (start : Int) (pages : Int) (U : Hp) (R : Int -> Hp -> Prop) : Prop :=
 X5.call vh start pages U fun ve v =>
 If (ve != 0) (R ve v)
 (Xe [(.i .i64)] (fun I => I start v) fun J (p : Int) v1 =>
 Ar .i64 (start + pages) fun t20 =>
 If (decide (p < t20)) (XP.call vh p v1 fun t26 v2 =>
 If (!t26) (R 4 v2)
 (Ar .i64 (p + 1) fun p1 =>
 J p1 v2))
 (YL.call vh start pages v1 fun v3 =>
 R 0 v3))
theorem Xv.of_vc {vh start pages U R} (hv : Xv.vc vh start pages U R) : Xv.call vh start pages U R :=
 Wa Tryz.func75 (x := Xv.hint) (Eq.mpr (by kernel_rfl) hv)
def Z3.hint : Hn := .q (.o 2) (.q (.q (.reg (.seq [.op, .op, .op, .grd false 2 [.op, .op]])) (.c (.q (.o 2) (.l)) (.l))) (.q (.o 4) (.q (.q (.o 1) (.k (.loop [(5, .one (.i .i64))] (.q (.q (.o 3) (.c (.l) (.l))) (.q (.k (.o 11)) (.o 3)))))) (.q (.o 3) (.l)))))
def Z3.vc (pages : Int) (U : Hp) (R : Option Addr -> Int -> Hp -> Prop) : Prop :=
 JnB (fun r v =>
 If r (R none 1 v)
 (Nw (.cells #[.int .i64 pages, .slice none 0 0] 183 (0, 0)) v fun n14 v1 =>
 Xe [(.i .i64)] (fun I => I 1 v1) fun J1 (size : Int) v2 =>
 If (decide (size <= pages)) (NilP (some n14) fun a22 =>
 LdS (a22.add 1) v2 fun t24 =>
 Nw (.map #[] 0) v2 fun n25 v3 =>
 Nw (.cells #[.map (some n25.block)] 184 (0, 0)) v3 fun n26 v4 =>
 App t24 1 8 184 [.map none] ⟨(some n26), 1, 1⟩ v4 fun t27 v5 =>
 NilP (some n14) fun a28 =>
 St1 (a28.add 1) (.slice t27.a t27.len t27.cap) v5 fun v6 =>
 Ar .i64 (size * 2) fun size1 =>
 J1 size1 v6)
 (R (some n14) 0 v2))) fun J =>
 If (decide (pages < 1)) (J true U)
 (J (decide (pages > 1024)) U)
theorem Z3.of_vc {pages U R} (hv : Z3.vc pages U R) : Z3.call pages U R :=
 Wa Tryz.func88 (x := Z3.hint) (Eq.mpr (by kernel_rfl) hv)
def XK.hint : Hn := .q (.o 1) (.q (.q (.o 3) (.c (.q (.o 1) (.l)) (.l))) (.q (.o 7) (.q (.q (.o 6) (.k (.loop [(20, .one (.i .i64))] (.q (.o 1) (.q (.c (.l) (.l)) (.q (.k (.q (.o 3) (.reg (.held true [8, 11] (.take 0 (.take 1 (.take 2 (.take 3 (.take 4 (.take 5 (.all [(6, .all [(7, .all [(8, .take 9 (.take 10 (.all [(11, .done)])))])])]))))))))))) (.o 2))))))) (.q (.o 2) (.l)))))
def XK.vc (vh : Option Addr) (U : Hp) (R : Option Addr -> Hp -> Prop) : Prop :=
 Xx.call vh U fun t7 v =>
 If (!t7) (R none v)
 (NilP vh fun a10 =>
 LdI .i64 (a10.add 0) v fun t12 =>
 Nw (.cells #[.int .i64 t12, .slice none 0 0] 183 (0, 0)) v fun n14 v1 =>
 NilP vh fun a16 =>
 LdS (a16.add 1) v1 fun t18 =>
 Xe [(.i .i64)] (fun I => I 0 v1) fun J (t20 : Int) v2 =>
 If (decide (t20 < ((t18.len : Nat) : Int))) (Ix t18.a t18.len t20 1 fun a22 =>
 LdM a22 v2 fun l =>
 Held v2 fun S =>
 NilP (some n14) fun a26 =>
 LdH S .s (a26.add 1) fun (t28 : Sl) =>
 Zw.call l v2 fun t30 v3 =>
 And (S v3) <|
 Nw (.cells #[.map t30] 184 (0, 0)) v3 fun n31 v4 =>
 And (S v4) <|
 App t28 1 8 184 [.map none] ⟨(some n31), 1, 1⟩ v4 fun t32 v5 =>
 NilP (some n14) fun a33 =>
 St1 (a33.add 1) (.slice t32.a t32.len t32.cap) v5 fun v6 =>
 Ar .i64 (t20 + 1) fun t35 =>
 J t35 v6)
 (R (some n14) v2))
theorem XK.of_vc {vh U R} (hv : XK.vc vh U R) : XK.call vh U R :=
 Wa Tryz.func103 (x := XK.hint) (Eq.mpr (by kernel_rfl) hv)
def Xx.hint : Hn := .q (.o 1) (.q (.reg (.seq [.op, .op, .op, .grd true 5 [.op, .op, .op, .op, .op], .op])) (.l))
def Xx.vc (vh : Option Addr) (U : Hp) (R : Bool -> Hp -> Prop) : Prop :=
 JnB (fun r v =>
 R r v) fun J =>
 If (!vh.isNone) (NilP vh fun a7 =>
 LdI .i64 (a7.add 0) U fun t9 =>
 J (decide (t9 > 0)) U)
 (J false U)
theorem Xx.of_vc {vh U R} (hv : Xx.vc vh U R) : Xx.call vh U R :=
 Wa Tryz.func140 (x := Xx.hint) (Eq.mpr (by kernel_rfl) hv)
def Yb.hint : Hn := .q (.o 1) (.q (.q (.o 5) (.q (.o 2) (.c (.q (.o 2) (.l)) (.l)))) (.q (.q (.o 2) (.k (.loop [(8, .one (.i .i64))] (.q (.q (.o 5) (.c (.l) (.l))) (.q (.k (.q (.o 3) (.c (.q (.o 1) (.l)) (.l)))) (.o 3)))))) (.q (.o 4) (.q (.o 1) (.l)))))
def Yb.vc (vh : Option Addr) (start : Int) (pages : Int) (U : Hp) (R : Int -> Hp -> Prop) : Prop :=
 X5.call vh start pages U fun ve v =>
 If (ve != 0) (R ve v)
 (Xe [(.i .i64)] (fun I => I start v) fun J (p : Int) v1 =>
 Ar .i64 (start + pages) fun t20 =>
 If (decide (p < t20)) (XP.call vh p v1 fun t26 v2 =>
 If t26 (R 9 v2)
 (Ar .i64 (p + 1) fun p1 =>
 J p1 v2))
 (X6.call vh start pages v1 fun v3 =>
 R 0 v3))
theorem Yb.of_vc {vh start pages U R} (hv : Yb.vc vh start pages U R) : Yb.call vh start pages U R :=
 Wa Tryz.func145 (x := Yb.hint) (Eq.mpr (by kernel_rfl) hv)
def X5.hint : Hn := .q (.o 1) (.q (.k (.q (.o 4) (.c (.q (.o 1) (.l)) (.q (.reg (.seq [.op, .op, .op, .grd false 2 [.op, .op], .op, .grd false 6 [.op, .op, .op, .op, .op, .op], .op, .grd false 8 [.op, .op, .op, .op, .op, .op, .op, .op], .op])) (.c (.q (.o 1) (.l)) (.l)))))) (.q (.o 1) (.l)))
def X5.vc (vh : Option Addr) (start : Int) (pages : Int) (U : Hp) (R : Int -> Hp -> Prop) : Prop :=
 Xx.call vh U fun t9 v =>
 If (!t9) (R 5 v)
 (JnB (fun r v1 =>
 JnB (fun r1 v2 =>
 JnB (fun r2 v3 =>
 If r2 (R 1 v3)
 (R 0 v3)) fun J2 =>
 If r1 (J2 true v2)
 (NilP vh fun a29 =>
 LdI .i64 (a29.add 0) v2 fun t31 =>
 Ar .i64 (t31 - start) fun t33 =>
 J2 (decide (pages > t33)) v2)) fun J1 =>
 If r (J1 true v1)
 (NilP vh fun a21 =>
 LdI .i64 (a21.add 0) v1 fun t23 =>
 J1 (decide (start > t23)) v1)) fun J =>
 If (decide (start < 0)) (J true v)
 (J (decide (pages < 1)) v))
theorem X5.of_vc {vh start pages U R} (hv : X5.vc vh start pages U R) : X5.call vh start pages U R :=
 Wa Tryz.func161 (x := X5.hint) (Eq.mpr (by kernel_rfl) hv)
def XP.hint : Hn := .q (.o 1) (.q (.q (.reg (.seq [.op, .op, .op, .op, .grd false 2 [.op, .op], .op, .grd false 6 [.op, .op, .op, .op, .op, .op]])) (.c (.q (.o 1) (.l)) (.l))) (.q (.o 10) (.q (.o 2) (.l))))
def XP.vc (vh : Option Addr) (page : Int) (U : Hp) (R : Bool -> Hp -> Prop) : Prop :=
 Xx.call vh U fun t9 v =>
 JnB (fun r v1 =>
 JnB (fun r1 v2 =>
 If r1 (R false v2)
 (Xy.call vh page v2 fun t26 t261 t262 v3 =>
 R t262 v3)) fun J1 =>
 If r (J1 true v1)
 (NilP vh fun a18 =>
 LdI .i64 (a18.add 0) v1 fun t20 =>
 J1 (decide (page ≥ t20)) v1)) fun J =>
 If (!t9) (J true v)
 (J (decide (page < 0)) v)
theorem XP.of_vc {vh page U R} (hv : XP.vc vh page U R) : XP.call vh page U R :=
 Wa Tryz.func162 (x := XP.hint) (Eq.mpr (by kernel_rfl) hv)
def YL.hint : Hn := .q (.o 2) (.k (.loop [(6, .one (.i .i64))] (.q (.q (.o 5) (.c (.l) (.l))) (.k (.q (.o 10) (.q (.o 9) (.q (.o 5) (.q (.o 6) (.q (.q (.o 4) (.q (.o 3) (.c (.o 6) (.l)))) (.o 2))))))))))
def YL.vc (vh : Option Addr) (start : Int) (pages : Int) (U : Hp) (R : Hp -> Prop) : Prop :=
 Xe [(.i .i64)] (fun I => I start U) fun J (p : Int) v =>
 Ar .i64 (start + pages) fun t16 =>
 If (decide (p < t16)) (Xy.call vh p v fun t21 t211 t212 v1 =>
 NilP vh fun a26 =>
 LdS (a26.add 1) v1 fun t28 =>
 Ix t28.a t28.len t21 1 fun a30 =>
 LdM a30 v1 fun t31 =>
 MDel .i64 .b t31 t211 v1 fun v2 =>
 Nn t21 <| Ar .i64 (1 * 2 ^ (min t21.toNat IntKind.i64.bits)) fun t35 =>
 Ar .i64 (t211 + t35) fun vend =>
 Ar .i64 (p - t211) fun t41 =>
 X6.call vh t211 t41 v2 fun v3 =>
 Ar .i64 (start + pages) fun last =>
 If (decide (vend > last)) (Ar .i64 (vend - last) fun t53 =>
 X6.call vh last t53 v3 fun v4 =>
 J vend v4)
 (J vend v3))
 (R v)
theorem YL.of_vc {vh start pages U R} (hv : YL.vc vh start pages U R) : YL.call vh start pages U R :=
 Wa Tryz.func163 (x := YL.hint) (Eq.mpr (by kernel_rfl) hv)
def XT.hint : Hn := .q (.o 2) (.q (.k (.q (.o 4) (.c (.q (.o 2) (.l)) (.q (.reg (.seq [.op, .op, .op, .grd false 2 [.op, .op], .op, .grd false 2 [.op, .op], .op, .grd false 2 [.op, .op], .op, .grd false 5 [.op, .op, .op, .op, .op], .op])) (.c (.q (.o 2) (.l)) (.l)))))) (.q (.q (.o 6) (.k (.loop [(42, .one (.i .i64))] (.q (.o 1) (.q (.c (.l) (.l)) (.q (.k (.q (.o 5) (.q (.reg (.seq [.op, .op, .op, .op, .op, .op, .op, .grd true 3 [.op, .op, .op]])) (.c (.q (.o 5) (.q (.o 4) (.q (.o 3) (.l)))) (.l))))) (.o 2))))))) (.q (.o 2) (.l))))
def XT.vc (vh : Option Addr) (pages : Int) (align : Int) (U : Hp) (R : Int -> Int -> Hp -> Prop) : Prop :=
 Xx.call vh U fun t13 v =>
 If (!t13) (R 0 5 v)
 (JnB (fun r v1 =>
 JnB (fun r1 v2 =>
 JnB (fun r2 v3 =>
 JnB (fun r3 v4 =>
 If r3 (R 0 1 v4)
 (NilP vh fun a38 =>
 LdS (a38.add 1) v4 fun t40 =>
 Xe [(.i .i64)] (fun I => I 0 v4) fun J4 (t42 : Int) v5 =>
 If (decide (t42 < ((t40.len : Nat) : Int))) (Ix t40.a t40.len t42 1 fun a45 =>
 LdM a45 v5 fun l =>
 Nn t42 <| Ar .i64 (1 * 2 ^ (min t42.toNat IntKind.i64.bits)) fun t48 =>
 JnB (fun r4 v6 =>
 If r4 (Zy.call l v6 fun t59 v7 =>
 QT.call t59 v7 fun t60 v8 =>
 XZ.call t60 v8 fun start v9 =>
 YL.call vh start pages v9 fun v10 =>
 R start 0 v10)
 (Ar .i64 (t42 + 1) fun t67 =>
 J4 t67 v6)) fun J5 =>
 If (decide (t48 ≥ (if align > pages then align else pages))) (MLen .i64 .b l v5 fun t55 =>
 J5 (decide (t55 > 0)) v5)
 (J5 false v5))
 (R 0 6 v5))) fun J3 =>
 If r2 (J3 true v3)
 (Ar .i64 (align - 1) fun t33 =>
 J3 ((bits .and .i64 align t33) != 0) v3)) fun J2 =>
 If r1 (J2 true v2)
 (J2 (decide (align > 1024)) v2)) fun J1 =>
 If r (J1 true v1)
 (J1 (decide (align < 1)) v1)) fun J =>
 If (decide (pages < 1)) (J true v)
 (J (decide (pages > 1024)) v))
theorem XT.of_vc {vh pages align U R} (hv : XT.vc vh pages align U R) : XT.call vh pages align U R :=
 Wa Tryz.func166 (x := XT.hint) (Eq.mpr (by kernel_rfl) hv)
def X6.hint : Hn := .k (.loop [(1, .one (.i .i64)), (2, .one (.i .i64))] (.q (.q (.o 2) (.c (.l) (.l))) (.k (.q (.o 1) (.q (.k (.loop [(6, .one (.i .i64))] (.q (.q (.reg (.seq [.op, .op, .op, .op, .op, .op, .op, .op, .op, .op, .grd true 5 [.op, .op, .op, .op, .op]])) (.c (.l) (.l))) (.k (.o 3))))) (.q (.o 4) (.oq 10)))))))
def X6.vc (vh : Option Addr) (start : Int) (pages : Int) (U : Hp) (R : Hp -> Prop) : Prop :=
 Xe [(.i .i64), (.i .i64)] (fun I => I start pages U) fun J (start1 : Int) (pages1 : Int) v =>
 If (decide (pages1 > 0)) (Xe [(.i .i64)] (fun I1 => I1 0 v) fun J1 (k : Int) v1 =>
 Ar .i64 (k + 1) fun t11 =>
 Nn t11 <|
 Ar .i64 (k + 1) fun t14 =>
 Nn t14 <| Ar .i64 ((start1.fdiv (2 ^ (min t11.toNat IntKind.i64.bits))) * 2 ^ (min t14.toNat IntKind.i64.bits)) fun t15 =>
 JnB (fun r v2 =>
 If r (Ar .i64 (k + 1) fun k1 =>
 J1 k1 v2)
 (YK.call vh k start1 v2 fun v3 =>
 Nn k <| Ar .i64 (1 * 2 ^ (min k.toNat IntKind.i64.bits)) fun t33 =>
 Ar .i64 (start1 + t33) fun start2 =>
 Nn k <| Ar .i64 (1 * 2 ^ (min k.toNat IntKind.i64.bits)) fun t37 =>
 Ar .i64 (pages1 - t37) fun pages2 =>
 J start2 pages2 v3)) fun J2 =>
 If (t15 == start1) (Ar .i64 (k + 1) fun t20 =>
 Nn t20 <| Ar .i64 (1 * 2 ^ (min t20.toNat IntKind.i64.bits)) fun t21 =>
 J2 (decide (t21 <= pages1)) v1)
 (J2 false v1))
 (R v)
theorem X6.of_vc {vh start pages U R} (hv : X6.vc vh start pages U R) : X6.call vh start pages U R :=
 Wa Tryz.func213 (x := X6.hint) (Eq.mpr (by kernel_rfl) hv)
def Xy.hint : Hn := .q (.o 3) (.q (.q (.o 6) (.k (.loop [(15, .one (.i .i64))] (.q (.o 1) (.q (.c (.l) (.l)) (.q (.k (.q (.o 5) (.q (.o 6) (.q (.o 3) (.c (.q (.o 5) (.l)) (.l)))))) (.o 2))))))) (.q (.o 3) (.l)))
def Xy.vc (vh : Option Addr) (page : Int) (U : Hp) (R : Int -> Int -> Bool -> Hp -> Prop) : Prop :=
 NilP vh fun a11 =>
 LdS (a11.add 1) U fun t13 =>
 Xe [(.i .i64)] (fun I => I 0 U) fun J (t15 : Int) v =>
 If (decide (t15 < ((t13.len : Nat) : Int))) (Ix t13.a t13.len t15 1 fun a18 =>
 LdM a18 v fun l =>
 Nn t15 <|
 Nn t15 <| Ar .i64 ((page.fdiv (2 ^ (min t15.toNat IntKind.i64.bits))) * 2 ^ (min t15.toNat IntKind.i64.bits)) fun start =>
 Lk .i64 .b l start v fun t27 =>
 If (t27.getD false) (R t15 start true v)
 (Ar .i64 (t15 + 1) fun t30 =>
 J t30 v))
 (R 0 0 false v)
theorem Xy.of_vc {vh page U R} (hv : Xy.vc vh page U R) : Xy.call vh page U R :=
 Wa Tryz.func221 (x := Xy.hint) (Eq.mpr (by kernel_rfl) hv)
def YK.hint : Hn := .q (.k (.loop [(1, .one (.i .i64)), (2, .one (.i .i64))] (.q (.q (.reg (.quiet [.op, .op, .op, .op, .op, .op, .op, .op, .op, .grd true 12 [.op, .op, .op, .op, .op, .op, .op, .op, .op, .op, .op, .op]])) (.c (.l) (.l))) (.k (.q (.reg (.tail 11 [.op, .op, .op, .op, .op, .op, .op, .op, .op, .op, .op] [.op])) (.q (.o 8) (.o 3))))))) (.o 9)
def YK.vc (vh : Option Addr) (order : Int) (start : Int) (U : Hp) (R : Hp -> Prop) : Prop :=
 Xe [(.i .i64), (.i .i64)] (fun I => I order start U) fun J (order1 : Int) (start1 : Int) v =>
 Ar .i64 (order1 + 1) fun t7 =>
 NilP vh fun a9 =>
 LdS (a9.add 1) v fun t11 =>
 JnB (fun r v1 =>
 If r (NilP vh fun a29 =>
 LdS (a29.add 1) v1 fun t31 =>
 Ix t31.a t31.len order1 1 fun a33 =>
 LdM a33 v1 fun t34 =>
 Nn order1 <| Ar .i64 (1 * 2 ^ (min order1.toNat IntKind.i64.bits)) fun t37 =>
 MDel .i64 .b t34 (bits .xor .i64 start1 t37) v1 fun v2 =>
 Ar .i64 (order1 + 1) fun t41 =>
 Nn t41 <|
 Ar .i64 (order1 + 1) fun t44 =>
 Nn t44 <| Ar .i64 ((start1.fdiv (2 ^ (min t41.toNat IntKind.i64.bits))) * 2 ^ (min t44.toNat IntKind.i64.bits)) fun start2 =>
 Ar .i64 (order1 + 1) fun order2 =>
 J order2 start2 v2)
 (NilP vh fun a49 =>
 LdS (a49.add 1) v1 fun t51 =>
 Ix t51.a t51.len order1 1 fun a53 =>
 LdM a53 v1 fun t54 =>
 MSet .i64 .b t54 start1 true v1 fun v3 =>
 R v3)) fun J1 =>
 If (decide (t7 < ((t11.len : Nat) : Int))) (NilP vh fun a16 =>
 LdS (a16.add 1) v fun t18 =>
 Ix t18.a t18.len order1 1 fun a20 =>
 LdM a20 v fun t21 =>
 Nn order1 <| Ar .i64 (1 * 2 ^ (min order1.toNat IntKind.i64.bits)) fun t24 =>
 Lk .i64 .b t21 (bits .xor .i64 start1 t24) v fun t26 =>
 J1 (t26.getD false) v)
 (J1 false v)
theorem YK.of_vc {vh order start U R} (hv : YK.vc vh order start U R) : YK.call vh order start U R :=
 Wa Tryz.func264 (x := YK.hint) (Eq.mpr (by kernel_rfl) hv)
end Go.Proofs
namespace Go.Proofs
open Go.Vc

set_option maxRecDepth 100000
def Wu.hint : Hn := .q (.o 1) (.q (.q (.o 2) (.c (.q (.o 1) (.l)) (.l))) (.q (.o 4) (.l)))
def Wu.vc (s : Sl) (U : Hp) (R : Sl -> Hp -> Prop) : Prop :=
 If s.a.isNone (R ⟨none, 0, 0⟩ U)
 (Nw (.cells #[] 3 (0, 0)) U fun n5 v =>
 App ⟨(some n5), 0, 0⟩ 1 8 3 [.int .i64 0] s v fun t7 v1 =>
 R t7 v1)
theorem Wu.of_vc {s U R} (hv : Wu.vc s U R) : Wu.call s U R :=
 Wa Tryz.func83 (x := Wu.hint) (Eq.mpr (by kernel_rfl) hv)
def Wc.hint : Hn := .q (.o 1) (.q (.q (.o 2) (.c (.q (.o 1) (.l)) (.l))) (.q (.o 4) (.l)))
def Wc.vc (s : Sl) (U : Hp) (R : Sl -> Hp -> Prop) : Prop :=
 If s.a.isNone (R ⟨none, 0, 0⟩ U)
 (Nw (.cells #[] 51 (0, 0)) U fun n5 v =>
 App ⟨(some n5), 0, 0⟩ 3 24 51 [.int .i64 0, .int .i64 0, .int .i64 0] s v fun t7 v1 =>
 R t7 v1)
theorem Wc.of_vc {s U R} (hv : Wc.vc s U R) : Wc.call s U R :=
 Wa Tryz.func86 (x := Wc.hint) (Eq.mpr (by kernel_rfl) hv)
def Xw.hint : Hn := .q (.o 1) (.q (.o 1) (.q (.q (.o 3) (.k (.loop [(3, .one (.i .i64)), (11, .one (.i .i64))] (.q (.o 1) (.q (.c (.l) (.l)) (.q (.k (.q (.o 3) (.q (.o 5) (.q (.o 2) (.c (.o 2) (.l)))))) (.o 2))))))) (.q (.o 3) (.q (.q (.o 3) (.k (.loop [(6, .one .s), (27, .one (.i .i64))] (.q (.o 1) (.q (.c (.l) (.l)) (.q (.k (.q (.o 3) (.o 4))) (.o 2))))))) (.q (.o 2) (.l))))))
def Xw.vc (slices : Sl) (U : Hp) (R : Sl -> Hp -> Prop) : Prop :=
 Xe [(.i .i64), (.i .i64)] (fun I => I 0 0 U) fun J (size : Int) (t11 : Int) v =>
 If (decide (t11 < ((slices.len : Nat) : Int))) (Ix slices.a slices.len t11 1 fun a13 =>
 LdS a13 v fun s =>
 Ar .i64 (size + ((s.len : Nat) : Int)) fun size1 =>
 If (decide (size1 < 0)) (False)
 (Ar .i64 (t11 + 1) fun t22 =>
 J size1 t22 v))
 (XB.call ⟨none, 0, 0⟩ size v fun newslice v1 =>
 Xe [.s, (.i .i64)] (fun I1 => I1 newslice 0 v1) fun J1 (newslice1 : Sl) (t27 : Int) v2 =>
 If (decide (t27 < ((slices.len : Nat) : Int))) (Ix slices.a slices.len t27 1 fun a29 =>
 LdS a29 v2 fun s1 =>
 App newslice1 1 8 3 [.int .i64 0] s1 v2 fun newslice2 v3 =>
 Ar .i64 (t27 + 1) fun t34 =>
 J1 newslice2 t34 v3)
 (R newslice1 v2))
theorem Xw.of_vc {slices U R} (hv : Xw.vc slices U R) : Xw.call slices U R :=
 Wa Tryz.func138 (x := Xw.hint) (Eq.mpr (by kernel_rfl) hv)
def We.hint : Hn := .q (.o 1) (.q (.o 4) (.q (.q (.o 2) (.c (.q (.o 2) (.l)) (.l))) (.q (.q (.o 3) (.k (.loop [(5, .one (.i .i64)), (6, .one (.i .i64))] (.q (.q (.o 4) (.c (.l) (.l))) (.q (.k (.q (.o 6) (.q (.o 4) (.c (.q (.o 5) (.o 3)) (.l))))) (.o 3)))))) (.q (.o 4) (.q (.o 4) (.l))))))
def We.vc (s : Sl) (del : Fv) (U : Hp) (R : Sl -> Hp -> Prop) : Prop :=
 Wh.call s del U fun i v =>
 If (i == (-1)) (R s v)
 (Ar .i64 (i + 1) fun j =>
 Xe [(.i .i64), (.i .i64)] (fun I => I i j v) fun J (i1 : Int) (j1 : Int) v1 =>
 If (decide (j1 < ((s.len : Nat) : Int))) (Ix s.a s.len j1 3 fun a24 =>
 LdI .i64 (a24.add 0) v1 fun t25 =>
 LdI .i64 (a24.add 1) v1 fun t251 =>
 LdP (a24.add 2) v1 fun t252 =>
 Nw (.cells #[.int .i64 0, .int .i64 0, .pointer none] 175 (0, 0)) v1 fun n7 v2 =>
 St1 (n7.add 0) (.int .i64 t25) v2 fun v3 =>
 St1 (n7.add 1) (.int .i64 t251) v3 fun v4 =>
 St1 (n7.add 2) (.pointer t252) v4 fun v5 =>
 LdI .i64 (n7.add 0) v5 fun t27 =>
 LdI .i64 (n7.add 1) v5 fun t271 =>
 LdP (n7.add 2) v5 fun t272 =>
 Vv Tryz.prog del [.agg #[.int .i64 t27, .int .i64 t271, .pointer t272]] [.one .b] v5 fun t28 v6 =>
 If (!t28) (LdI .i64 (n7.add 0) v6 fun t32 =>
 LdI .i64 (n7.add 1) v6 fun t321 =>
 LdP (n7.add 2) v6 fun t322 =>
 Ix s.a s.len i1 3 fun a33 =>
 St1 (a33.add 0) (.int .i64 t32) v6 fun v7 =>
 St1 (a33.add 1) (.int .i64 t321) v7 fun v8 =>
 St1 (a33.add 2) (.pointer t322) v8 fun v9 =>
 Ar .i64 (i1 + 1) fun i2 =>
 Ar .i64 (j1 + 1) fun j2 =>
 J i2 j2 v9)
 (Ar .i64 (j1 + 1) fun j3 =>
 J i1 j3 v6))
 (SlcL s 3 i1 (s.len : Nat) (s.cap : Nat) fun t38 =>
 Clr t38 [.int .i64 0, .int .i64 0, .pointer none] v1 fun v10 =>
 SlcL s 3 0 i1 (s.cap : Nat) fun t41 =>
 R t41 v10))
theorem We.of_vc {s del U R} (hv : We.vc s del U R) : We.call s del U R :=
 Wa Tryz.func146 (x := We.hint) (Eq.mpr (by kernel_rfl) hv)
def WX.hint : Hn := .q (.o 3) (.o 7)
def WX.vc (vx : Sl) (cmp : Fv) (U : Hp) (R : Hp -> Prop) : Prop :=
 Ar .u64 ((vx.len : Nat) : Int) fun t10 =>
 Ze.call t10 U fun t11 v =>
 WW.call vx 0 ((vx.len : Nat) : Int) t11 cmp v fun v1 =>
 R v1
theorem WX.of_vc {vx cmp U R} (hv : WX.vc vx cmp U R) : WX.call vx cmp U R :=
 Wa Tryz.func152 (x := WX.hint) (Eq.mpr (by kernel_rfl) hv)
def Wj.hint : Hn := .q (.o 2) (.q (.o 5) (.l))
def Wj.vc (s : Sl) (v : Bool) (v1 : Bool) (U : Hp) (R : Bool -> Hp -> Prop) : Prop :=
 Nw (.cells #[.bool v, .bool v1] 126 (0, 0)) U fun n3 v2 =>
 LdB (n3.add 0) v2 fun t6 =>
 LdB (n3.add 1) v2 fun t61 =>
 Wm.call s t6 t61 v2 fun t7 v3 =>
 R (decide (t7 ≥ 0)) v3
theorem Wj.of_vc {s v v1 U R} (hv : Wj.vc s v v1 U R) : Wj.call s v v1 U R :=
 Wa Tryz.func198 (x := Wj.hint) (Eq.mpr (by kernel_rfl) hv)
def Wb.hint : Hn := .q (.o 2) (.q (.o 3) (.q (.o 3) (.q (.k (.loop [(9, .one (.i .i64)), (10, .one (.i .i64))] (.q (.q (.o 3) (.c (.l) (.l))) (.k (.q (.o 7) (.q (.o 8) (.c (.o 3) (.o 2)))))))) (.q (.reg (.seq [.op, .op, .op, .op, .op, .grd true 8 [.op, .op, .op, .op, .op, .op, .op, .op], .op, .op])) (.l)))))
def Wb.vc (vx : Sl) (target : Int) (cmp : Fv) (U : Hp) (R : Int -> Bool -> Hp -> Prop) : Prop :=
 Xe [(.i .i64), (.i .i64)] (fun I => I 0 ((vx.len : Nat) : Int) U) fun J (i : Int) (j : Int) v =>
 If (decide (i < j)) (Ar .i64 (i + j) fun t20 =>
 Ar .u64 t20 fun t21 =>
 Nn (1 : Int) <|
 Ar .i64 (t21.fdiv (2 ^ (min (1 : Int).toNat IntKind.u64.bits))) fun vh =>
 Ix vx.a vx.len vh 3 fun a27 =>
 LdI .i64 (a27.add 0) v fun t28 =>
 LdI .i64 (a27.add 1) v fun t281 =>
 LdP (a27.add 2) v fun t282 =>
 Vv Tryz.prog cmp [.agg #[.int .i64 t28, .int .i64 t281, .pointer t282], .int .i64 target] [.one (.i .i64)] v fun t30 v1 =>
 If (decide (t30 < 0)) (Ar .i64 (vh + 1) fun i1 =>
 J i1 j v1)
 (J i vh v1))
 (JnB (fun r v2 =>
 R i r v2) fun J1 =>
 If (decide (i < ((vx.len : Nat) : Int))) (Ix vx.a vx.len i 3 fun a43 =>
 LdI .i64 (a43.add 0) v fun t44 =>
 LdI .i64 (a43.add 1) v fun t441 =>
 LdP (a43.add 2) v fun t442 =>
 Vv Tryz.prog cmp [.agg #[.int .i64 t44, .int .i64 t441, .pointer t442], .int .i64 target] [.one (.i .i64)] v fun t46 v3 =>
 J1 (t46 == 0) v3)
 (J1 false v))
theorem Wb.of_vc {vx target cmp U R} (hv : Wb.vc vx target cmp U R) : Wb.call vx target cmp U R :=
 Wa Tryz.func204 (x := Wb.hint) (Eq.mpr (by kernel_rfl) hv)
def Wf.hint : Hn := .q (.o 1) (.q (.o 3) (.q (.o 3) (.q (.q (.o 2) (.c (.q (.o 2) (.l)) (.l))) (.q (.o 3) (.q (.q (.o 3) (.c (.q (.o 4) (.l)) (.l))) (.q (.q (.o 6) (.c (.q (.o 10) (.q (.o 5) (.q (.reg (.tail 8 [.op, .op, .op, .op, .op, .op, .op, .op] [.op])) (.q (.o 2) (.l))))) (.l))) (.q (.o 6) (.q (.q (.o 8) (.c (.q (.reg (.tail 8 [.op, .op, .op, .op, .op, .op, .op, .op] [.op])) (.q (.o 5) (.q (.o 2) (.l)))) (.l))) (.q (.o 5) (.q (.o 5) (.q (.o 2) (.l))))))))))))
def Wf.vc (s : Sl) (i : Int) (v : Sl) (U : Hp) (R : Sl -> Hp -> Prop) : Prop :=
 SlcL s 3 i (s.len : Nat) (s.cap : Nat) fun t12 =>
 If (((v.len : Nat) : Int) == 0) (R s U)
 (If (i == ((s.len : Nat) : Int)) (App s 3 24 175 [.int .i64 0, .int .i64 0, .pointer none] v U fun t25 v1 =>
 R t25 v1)
 (Ar .i64 (((s.len : Nat) : Int) + ((v.len : Nat) : Int)) fun t28 =>
 If (decide (t28 > ((s.cap : Nat) : Int))) (SlcL s 3 0 i (s.cap : Nat) fun t34 =>
 Ar .i64 (((s.len : Nat) : Int) + ((v.len : Nat) : Int)) fun t37 =>
 Ar .i64 (t37 - i) fun t39 =>
 AppZ t34 3 24 175 [.int .i64 0, .int .i64 0, .pointer none] t39 U fun s2 v2 =>
 SlcL s2 3 i (s2.len : Nat) (s2.cap : Nat) fun t43 =>
 Cpy t43 3 v v2 fun t45 v3 =>
 Ar .i64 (i + ((v.len : Nat) : Int)) fun t49 =>
 SlcL s2 3 t49 (s2.len : Nat) (s2.cap : Nat) fun t50 =>
 SlcL s 3 i (s.len : Nat) (s.cap : Nat) fun t53 =>
 Cpy t50 3 t53 v3 fun t54 v4 =>
 R s2 v4)
 (Ar .i64 (((s.len : Nat) : Int) + ((v.len : Nat) : Int)) fun t59 =>
 SlcL s 3 0 t59 (s.cap : Nat) fun s1 =>
 Ar .i64 (i + ((v.len : Nat) : Int)) fun t65 =>
 SlcL s1 3 t65 (s1.len : Nat) (s1.cap : Nat) fun t66 =>
 ExtB Tryz.prog 258 [.slice v.a v.len v.cap, .slice t66.a t66.len t66.cap] U fun t67 v5 =>
 If (!t67) (Ar .i64 (i + ((v.len : Nat) : Int)) fun t72 =>
 SlcL s1 3 t72 (s1.len : Nat) (s1.cap : Nat) fun t73 =>
 SlcL s1 3 i (s1.len : Nat) (s1.cap : Nat) fun t76 =>
 Cpy t73 3 t76 v5 fun t77 v6 =>
 SlcL s1 3 i (s1.len : Nat) (s1.cap : Nat) fun t80 =>
 Cpy t80 3 v v6 fun t82 v7 =>
 R s1 v7)
 (SlcL s1 3 ((s.len : Nat) : Int) (s1.len : Nat) (s1.cap : Nat) fun t86 =>
 Cpy t86 3 v v5 fun t88 v8 =>
 SlcL s1 3 i (s1.len : Nat) (s1.cap : Nat) fun t91 =>
 Qk.call t91 ((v.len : Nat) : Int) v8 fun v9 =>
 R s1 v9))))
theorem Wf.of_vc {s i v U R} (hv : Wf.vc s i v U R) : Wf.call s i v U R :=
 Wa Tryz.func206 (x := Wf.hint) (Eq.mpr (by kernel_rfl) hv)
def Wn.hint : Hn := .q (.o 1) (.q (.o 5) (.l))
def Wn.vc (s : Sl) (v : Int) (U : Hp) (R : Bool -> Hp -> Prop) : Prop :=
 WL.call s v U fun t7 v1 =>
 R (decide (t7 ≥ 0)) v1
theorem Wn.of_vc {s v U R} (hv : Wn.vc s v U R) : Wn.call s v U R :=
 Wa Tryz.func208 (x := Wn.hint) (Eq.mpr (by kernel_rfl) hv)
def XB.hint : Hn := .q (.o 1) (.sjn [] (.q (.o 2) (.c (.o 2) (.l))) (.q (.q (.o 8) (.q (.o 2) (.c (.o 10) (.l)))) (.q (.o 2) (.l))))
def XB.vc (s : Sl) (n : Int) (U : Hp) (R : Sl -> Hp -> Prop) : Prop :=
 Jn [] (fun v =>
 Ar .i64 (((s.cap : Nat) : Int) - ((s.len : Nat) : Int)) fun t13 =>
 Ar .i64 (n - t13) fun n1 =>
 If (decide (n1 > 0)) (SlcL s 1 0 ((s.cap : Nat) : Int) (s.cap : Nat) fun t20 =>
 AppZ t20 1 8 3 [.int .i64 0] n1 v fun t22 v1 =>
 SlcL t22 1 0 ((s.len : Nat) : Int) (t22.cap : Nat) fun s1 =>
 R s1 v1)
 (R s v)) fun J =>
 If (decide (n < 0)) (False)
 (J U)
theorem XB.of_vc {s n U R} (hv : XB.vc s n U R) : XB.call s n U R :=
 Wa Tryz.func211 (x := XB.hint) (Eq.mpr (by kernel_rfl) hv)
def Wh.hint : Hn := .q (.o 1) (.q (.q (.o 3) (.k (.loop [(8, .one (.i .i64))] (.q (.o 1) (.q (.c (.l) (.l)) (.q (.k (.q (.o 2) (.q (.o 6) (.c (.q (.o 2) (.l)) (.l))))) (.o 2))))))) (.q (.o 1) (.l)))
def Wh.vc (s : Sl) (f : Fv) (U : Hp) (R : Int -> Hp -> Prop) : Prop :=
 Xe [(.i .i64)] (fun I => I 0 U) fun J (t8 : Int) v =>
 If (decide (t8 < ((s.len : Nat) : Int))) (Ix s.a s.len t8 3 fun a14 =>
 LdI .i64 (a14.add 0) v fun t15 =>
 LdI .i64 (a14.add 1) v fun t151 =>
 LdP (a14.add 2) v fun t152 =>
 Vv Tryz.prog f [.agg #[.int .i64 t15, .int .i64 t151, .pointer t152]] [.one .b] v fun t16 v1 =>
 If t16 (R t8 v1)
 (Ar .i64 (t8 + 1) fun t18 =>
 J t18 v1))
 (R (-1) v)
theorem Wh.of_vc {s f U R} (hv : Wh.vc s f U R) : Wh.call s f U R :=
 Wa Tryz.func214 (x := Wh.hint) (Eq.mpr (by kernel_rfl) hv)
def Ze.hint : Hn := .q (.o 1) (.q (.c (.l) (.l)) (.q (.o 3) (.l)))
def Ze.vc (vx : Int) (U : Hp) (R : Int -> Hp -> Prop) : Prop :=
 YT.call vx U fun t7 v =>
 R t7 v
theorem Ze.of_vc {vx U R} (hv : Ze.vc vx U R) : Ze.call vx U R :=
 Wa Tryz.func216 (x := Ze.hint) (Eq.mpr (by kernel_rfl) hv)
def Wx.hint : Hn := .q (.o 1) (.q (.o 5) (.l))
def Wx.vc (s : Sl) (f : Fv) (U : Hp) (R : Bool -> Hp -> Prop) : Prop :=
 W5.call s f U fun t7 v =>
 R (decide (t7 ≥ 0)) v
theorem Wx.of_vc {s f U R} (hv : Wx.vc s f U R) : Wx.call s f U R :=
 Wa Tryz.func217 (x := Wx.hint) (Eq.mpr (by kernel_rfl) hv)
def XZ.hint : Hn := .q (.o 1) (.sjn [] (.q (.o 3) (.c (.o 2) (.l))) (.q (.o 4) (.q (.q (.o 1) (.k (.loop [(3, .one (.i .i64)), (4, .one (.i .i64))] (.q (.q (.o 4) (.c (.l) (.l))) (.q (.k (.o 7)) (.o 3)))))) (.q (.o 2) (.l)))))
def XZ.vc (vx : Sl) (U : Hp) (R : Int -> Hp -> Prop) : Prop :=
 Jn [] (fun v =>
 Ix vx.a vx.len 0 1 fun a10 =>
 LdI .i64 a10 v fun m =>
 Xe [(.i .i64), (.i .i64)] (fun I => I m 1 v) fun J1 (m1 : Int) (i : Int) v1 =>
 If (decide (i < ((vx.len : Nat) : Int))) (Ix vx.a vx.len i 1 fun a21 =>
 LdI .i64 a21 v1 fun t22 =>
 Ar .i64 (i + 1) fun i1 =>
 J1 (if t22 < m1 then t22 else m1) i1 v1)
 (R m1 v1)) fun J =>
 If (decide (((vx.len : Nat) : Int) < 1)) (False)
 (J U)
theorem XZ.of_vc {vx U R} (hv : XZ.vc vx U R) : XZ.call vx U R :=
 Wa Tryz.func223 (x := XZ.hint) (Eq.mpr (by kernel_rfl) hv)
def Wm.hint : Hn := .q (.o 2) (.q (.q (.o 3) (.k (.loop [(8, .one (.i .i64))] (.q (.o 1) (.q (.c (.l) (.l)) (.q (.k (.q (.o 2) (.q (.oq 6) (.c (.q (.o 2) (.l)) (.l))))) (.o 2))))))) (.q (.o 1) (.l)))
def Wm.vc (s : Sl) (v : Bool) (v1 : Bool) (U : Hp) (R : Int -> Hp -> Prop) : Prop :=
 Nw (.cells #[.bool v, .bool v1] 126 (0, 0)) U fun n3 v2 =>
 Xe [(.i .i64)] (fun I => I 0 v2) fun J (t8 : Int) v3 =>
 If (decide (t8 < ((s.len : Nat) : Int))) (LdB (n3.add 0) v3 fun t11 =>
 LdB (n3.add 1) v3 fun t111 =>
 Ix s.a s.len t8 2 fun a14 =>
 LdB (a14.add 0) v3 fun t15 =>
 LdB (a14.add 1) v3 fun t151 =>
 If ((t11 == t15) && ((t111 == t151) && true)) (R t8 v3)
 (Ar .i64 (t8 + 1) fun t18 =>
 J t18 v3))
 (R (-1) v3)
theorem Wm.of_vc {s v v1 U R} (hv : Wm.vc s v v1 U R) : Wm.call s v v1 U R :=
 Wa Tryz.func257 (x := Wm.hint) (Eq.mpr (by kernel_rfl) hv)
def WL.hint : Hn := .q (.o 1) (.q (.q (.o 3) (.k (.loop [(8, .one (.i .i64))] (.q (.o 1) (.q (.c (.l) (.l)) (.q (.k (.q (.o 2) (.q (.o 6) (.c (.q (.o 2) (.l)) (.l))))) (.o 2))))))) (.q (.o 1) (.l)))
def WL.vc (s : Sl) (v : Int) (U : Hp) (R : Int -> Hp -> Prop) : Prop :=
 Xe [(.i .i64)] (fun I => I 0 U) fun J (t8 : Int) v1 =>
 If (decide (t8 < ((s.len : Nat) : Int))) (Ix s.a s.len t8 1 fun a14 =>
 LdI .i64 a14 v1 fun t15 =>
 If (v == t15) (R t8 v1)
 (Ar .i64 (t8 + 1) fun t18 =>
 J t18 v1))
 (R (-1) v1)
theorem WL.of_vc {s v U R} (hv : WL.vc s v U R) : WL.call s v U R :=
 Wa Tryz.func262 (x := WL.hint) (Eq.mpr (by kernel_rfl) hv)
def Wo.hint : Hn := .q (.o 3) (.k (.loop [(8, .one (.i .i64))] (.q (.q (.o 3) (.c (.l) (.l))) (.q (.k (.q (.o 2) (.k (.loop [(9, .one (.i .i64))] (.q (.q (.reg (.heldJ true [14] [(34, .one .b)] (.take 0 (.take 1 (.take 2 (.take 3 (.split 21 (.take 4 (.take 5 (.take 6 (.take 7 (.take 8 (.take 9 (.take 10 (.take 11 (.take 12 (.take 13 (.all [(14, .take 15 (.take 16 (.done)))]))))))))))) (.take 4 (.take 5 (.take 6 (.take 7 (.take 8 (.take 9 (.take 10 (.take 11 (.take 12 (.take 13 (.all [(14, .take 15 (.take 16 (.done)))])))))))))))))))))) (.c (.l) (.l))) (.q (.k (.reg (.held true [15, 17] (.take 0 (.take 1 (.take 2 (.take 3 (.take 4 (.take 5 (.take 6 (.take 7 (.take 8 (.take 9 (.take 10 (.take 11 (.take 12 (.take 13 (.take 14 (.all [(15, .take 16 (.all [(17, .done)]))]))))))))))))))))))) (.o 3))))))) (.o 3)))))
def Wo.vc (data : Sl) (a : Int) (b : Int) (cmp : Fv) (U : Hp) (R : Hp -> Prop) : Prop :=
 Ar .i64 (a + 1) fun i =>
 Xe [(.i .i64)] (fun I => I i U) fun J (i1 : Int) v =>
 If (decide (i1 < b)) (Xe [(.i .i64)] (fun I1 => I1 i1 v) fun J1 (j : Int) v1 =>
 Jn [.b] (fun (t34 : Bool) v2 =>
 If t34 (Held v2 fun S1 =>
 Ar .i64 (j - 1) fun t41 =>
 Ar .i64 (j - 1) fun t44 =>
 Ix data.a data.len t44 1 fun a45 =>
 LdH S1 (.i .i64) a45 fun (t46 : Int) =>
 Ix data.a data.len j 1 fun a49 =>
 LdH S1 (.i .i64) a49 fun (t50 : Int) =>
 Ix data.a data.len j 1 fun a51 =>
 St1 a51 (.int .i64 t46) v2 fun v3 =>
 Ix data.a data.len t41 1 fun a52 =>
 St1 a52 (.int .i64 t50) v3 fun v4 =>
 Ar .i64 (j - 1) fun j1 =>
 J1 j1 v4)
 (Ar .i64 (i1 + 1) fun i2 =>
 J i2 v2)) fun J2 =>
 Held v1 fun S =>
 If (decide (j > a)) (Ix data.a data.len j 1 fun a25 =>
 LdH S (.i .i64) a25 fun (t26 : Int) =>
 Ar .i64 (j - 1) fun t29 =>
 Ix data.a data.len t29 1 fun a30 =>
 LdH S (.i .i64) a30 fun (t31 : Int) =>
 Vv Tryz.prog cmp [.int .i64 t26, .int .i64 t31] [.one (.i .i64)] v1 fun t32 v5 =>
 J2 (decide (t32 < 0)) v5)
 (J2 false v1))
 (R v)
theorem Wo.of_vc {data a b cmp U R} (hv : Wo.vc data a b cmp U R) : Wo.call data a b cmp U R :=
 Wa Tryz.func265 (x := Wo.hint) (Eq.mpr (by kernel_rfl) hv)
def YT.hint : Hn := .q (.o 1) (.sjn [(0, .one (.i .u64)), (2, .one (.i .i64))] (.q (.o 2) (.c (.q (.o 3) (.o 1)) (.l))) (.sjn [(0, .one (.i .u64)), (2, .one (.i .i64))] (.q (.o 2) (.c (.q (.o 3) (.o 3)) (.l))) (.sjn [(0, .one (.i .u64)), (2, .one (.i .i64))] (.q (.o 2) (.c (.q (.o 3) (.o 3)) (.l))) (.q (.o 7) (.l)))))
def YT.vc (vx : Int) (U : Hp) (R : Int -> Hp -> Prop) : Prop :=
 Jn [(.i .u64), (.i .i64)] (fun (vx1 : Int) (n : Int) v =>
 Jn [(.i .u64), (.i .i64)] (fun (vx2 : Int) (n1 : Int) v1 =>
 Jn [(.i .u64), (.i .i64)] (fun (vx3 : Int) (n2 : Int) v2 =>
 Ar .u8 vx3 fun t21 =>
 IxS ⟨#[0, 1, 2, 2, 3, 3, 3, 3, 4, 4, 4, 4, 4, 4, 4, 4, 5, 5, 5, 5, 5, 5, 5, 5, 5, 5, 5, 5, 5, 5, 5, 5, 6, 6, 6, 6, 6, 6, 6, 6, 6, 6, 6, 6, 6, 6, 6, 6, 6, 6, 6, 6, 6, 6, 6, 6, 6, 6, 6, 6, 6, 6, 6, 6, 7, 7, 7, 7, 7, 7, 7, 7, 7, 7, 7, 7, 7, 7, 7, 7, 7, 7, 7, 7, 7, 7, 7, 7, 7, 7, 7, 7, 7, 7, 7, 7, 7, 7, 7, 7, 7, 7, 7, 7, 7, 7, 7, 7, 7, 7, 7, 7, 7, 7, 7, 7, 7, 7, 7, 7, 7, 7, 7, 7, 7, 7, 7, 7, 8, 8, 8, 8, 8, 8, 8, 8, 8, 8, 8, 8, 8, 8, 8, 8, 8, 8, 8, 8, 8, 8, 8, 8, 8, 8, 8, 8, 8, 8, 8, 8, 8, 8, 8, 8, 8, 8, 8, 8, 8, 8, 8, 8, 8, 8, 8, 8, 8, 8, 8, 8, 8, 8, 8, 8, 8, 8, 8, 8, 8, 8, 8, 8, 8, 8, 8, 8, 8, 8, 8, 8, 8, 8, 8, 8, 8, 8, 8, 8, 8, 8, 8, 8, 8, 8, 8, 8, 8, 8, 8, 8, 8, 8, 8, 8, 8, 8, 8, 8, 8, 8, 8, 8, 8, 8, 8, 8, 8, 8, 8, 8, 8, 8, 8, 8, 8, 8, 8, 8, 8, 8, 8, 8, 8, 8, 8, 8]⟩ t21 fun t22 =>
 Ar .i64 t22 fun t23 =>
 Ar .i64 (n2 + t23) fun n3 =>
 R n3 v2) fun J2 =>
 If (decide (vx2 ≥ 256)) (Nn (8 : Int) <|
 Ar .i64 (n1 + 8) fun n4 =>
 J2 (vx2.fdiv (2 ^ (min (8 : Int).toNat IntKind.u64.bits))) n4 v1)
 (J2 vx2 n1 v1)) fun J1 =>
 If (decide (vx1 ≥ 65536)) (Nn (16 : Int) <|
 Ar .i64 (n + 16) fun n5 =>
 J1 (vx1.fdiv (2 ^ (min (16 : Int).toNat IntKind.u64.bits))) n5 v)
 (J1 vx1 n v)) fun J =>
 If (decide (vx ≥ 4294967296)) (Nn (32 : Int) <|
 J (vx.fdiv (2 ^ (min (32 : Int).toNat IntKind.u64.bits))) 32 U)
 (J vx 0 U)
theorem YT.of_vc {vx U R} (hv : YT.vc vx U R) : YT.call vx U R :=
 Wa Tryz.func274 (x := YT.hint) (Eq.mpr (by kernel_rfl) hv)
def W5.hint : Hn := .q (.o 1) (.q (.q (.o 3) (.k (.loop [(8, .one (.i .i64))] (.q (.o 1) (.q (.c (.l) (.l)) (.q (.k (.q (.o 2) (.q (.o 6) (.c (.q (.o 2) (.l)) (.l))))) (.o 2))))))) (.q (.o 1) (.l)))
def W5.vc (s : Sl) (f : Fv) (U : Hp) (R : Int -> Hp -> Prop) : Prop :=
 Xe [(.i .i64)] (fun I => I 0 U) fun J (t8 : Int) v =>
 If (decide (t8 < ((s.len : Nat) : Int))) (Ix s.a s.len t8 1 fun a14 =>
 LdI .i64 a14 v fun t15 =>
 Vv Tryz.prog f [.int .i64 t15] [.one .b] v fun t16 v1 =>
 If t16 (R t8 v1)
 (Ar .i64 (t8 + 1) fun t18 =>
 J t18 v1))
 (R (-1) v)
theorem W5.of_vc {s f U R} (hv : W5.vc s f U R) : W5.call s f U R :=
 Wa Tryz.func275 (x := W5.hint) (Eq.mpr (by kernel_rfl) hv)
def Wg.hint : Hn := .q (.o 1) (.q (.o 5) (.l))
def Wg.vc (s : Sl) (f : Fv) (U : Hp) (R : Bool -> Hp -> Prop) : Prop :=
 Wl.call s f U fun t7 v =>
 R (decide (t7 ≥ 0)) v
theorem Wg.of_vc {s f U R} (hv : Wg.vc s f U R) : Wg.call s f U R :=
 Wa Tryz.func278 (x := Wg.hint) (Eq.mpr (by kernel_rfl) hv)
def Wl.hint : Hn := .q (.o 1) (.q (.q (.o 3) (.k (.loop [(8, .one (.i .i64))] (.q (.o 1) (.q (.c (.l) (.l)) (.q (.k (.q (.o 2) (.q (.o 6) (.c (.q (.o 2) (.l)) (.l))))) (.o 2))))))) (.q (.o 1) (.l)))
def Wl.vc (s : Sl) (f : Fv) (U : Hp) (R : Int -> Hp -> Prop) : Prop :=
 Xe [(.i .i64)] (fun I => I 0 U) fun J (t8 : Int) v =>
 If (decide (t8 < ((s.len : Nat) : Int))) (Ix s.a s.len t8 2 fun a14 =>
 LdB (a14.add 0) v fun t15 =>
 LdB (a14.add 1) v fun t151 =>
 Vv Tryz.prog f [.agg #[.bool t15, .bool t151]] [.one .b] v fun t16 v1 =>
 If t16 (R t8 v1)
 (Ar .i64 (t8 + 1) fun t18 =>
 J t18 v1))
 (R (-1) v)
theorem Wl.of_vc {s f U R} (hv : Wl.vc s f U R) : Wl.call s f U R :=
 Wa Tryz.func311 (x := Wl.hint) (Eq.mpr (by kernel_rfl) hv)
def WV.hint : Hn := .q (.o 1) (.q (.q (.o 2) (.c (.q (.o 1) (.l)) (.l))) (.q (.o 4) (.l)))
def WV.vc (s : Sl) (U : Hp) (R : Sl -> Hp -> Prop) : Prop :=
 If s.a.isNone (R ⟨none, 0, 0⟩ U)
 (Nw (.cells #[] 42 (0, 0)) U fun n5 v =>
 App ⟨(some n5), 0, 0⟩ 1 24 42 [.slice none 0 0] s v fun t7 v1 =>
 R t7 v1)
theorem WV.of_vc {s U R} (hv : WV.vc s U R) : WV.call s U R :=
 Wa Tryz.func318 (x := WV.hint) (Eq.mpr (by kernel_rfl) hv)
end Go.Proofs
namespace Go.Bu
open Go Go.Vc Go.Proofs


variable {U : Hp} {p n sb : Nat} {S : Nat -> Bool} {ms : List Nat}
theorem shl1 {k : Nat} {K : Int -> Prop} (hk : k <= 62) (hK : K ((2 ^ k : Nat) : Int)) : Nn (k : Int) (Ar .i64 (1 * 2 ^ (min (k : Int).toNat IntKind.i64.bits)) K) := by
 refine nn (by omega) ?_
 rw [GQ hk]
 exact arN (by simp) (War hk) hK
theorem shlA {a k : Nat} {K : Int -> Prop} (hk : k <= 62) (ha : a * 2 ^ k <= 4611686018427387904) (hK : K ((a * 2 ^ k : Nat) : Int)) : Ar .i64 ((a : Int) * 2 ^ (min (k : Int).toNat IntKind.i64.bits)) K := by
 rw [GQ hk]
 exact arN (by simp) ha hK
theorem shrl {x k j : Nat} {K : Int -> Prop} (hj : j = k) (hk : k <= 62) (hx : x <= 4611686018427387904) (hK : K ((x / 2 ^ k * 2 ^ k : Nat) : Int)) :
 Ar .i64 (((x : Int).fdiv (2 ^ (min (k : Int).toNat IntKind.i64.bits))) * 2 ^ (min (j : Int).toNat IntKind.i64.bits)) K := by
 subst hj
 rw [GQ hk, Wb0]
 refine arN (by simp) ?_ hK
 exact Nat.le_trans (Nat.div_mul_le_self _ _) hx
theorem BH.rN (h : BH U p n S sb ms) {K : Int -> Prop} (hK : K (n : Int)) : LdI .i64 (Addr.add ⟨p, 0, none⟩ 0) U K := ldI0 h.ldN hK
theorem BH.rB (h : BH U p n S sb ms) {K : Sl -> Prop} (hK : ∀ cap, K ⟨some ⟨sb, 0, none⟩, ms.length, cap⟩) : LdS (Addr.add ⟨p, 0, none⟩ 1) U K := by
 obtain ⟨cap, hc⟩ := h.ldB
 rw [add_lit]; exact ldS hc (hK cap)
theorem BH.rM (h : BH U p n S sb ms) {k m : Nat} (hm : ms[k]? = some m) {K : Option Nat -> Prop} (hK : K (some m)) : Ix (some ⟨sb, 0, none⟩) ms.length (k : Int) 1 fun a => LdM a U K := by
 refine ix (by omega) (by have := (gSi.1 hm).1; omega) ?_
 rw [add_lit]
 refine ldM ?_ hK
 have := h.ldR hm
 simpa using this
theorem UU (h : BH U p n S sb ms) {R : Bool -> Hp -> Prop} (hR : R true U) : Xx.call (some ⟨p, 0, none⟩) U R := by
 refine Xx.of_vc ?_
 unfold Xx.vc
 refine JnB.intro (ifT rfl (nilP (h.rN ?_)))
 have := h.n1
 rw [decide_eq_true (by omega)]
 exact hR
def XA (n : Nat) (start pages : Int) : Bool := decide (0 <= start) && (decide (1 <= pages) && decide (pages <= n - start))
theorem WbO (h : BH U p n S sb ms) (start pages : Int) {R : Int -> Hp -> Prop} (h0 : XA n start pages = true -> R 0 U) (h1 : XA n start pages = false -> R 1 U) : X5.call (some ⟨p, 0, none⟩) start pages U R := by
 refine X5.of_vc ?_
 unfold X5.vc
 have bad : ¬ (0 <= start /\ 1 <= pages /\ pages <= n - start) -> R 1 U := fun hn => h1 (by simp only [XA, ← Bool.decide_and]; exact decide_eq_false hn)
 have n1 := h.n1
 have n2 := h.n2
 refine UU h (ifF rfl (JnB.intro ?_))
 refine ifD (fun h1 => JnB.intro (ifT rfl (JnB.intro (ifT rfl (ifT rfl (bad (by omega))))))) fun h1 => ?_
 refine JnB.intro (ifD (fun h2 => JnB.intro (ifT rfl (ifT rfl (bad (by omega))))) fun h2 => ?_)
 refine nilP (h.rN ?_)
 refine JnB.intro (ifD (fun h3 => ifT rfl (bad (by omega))) fun h3 => ?_)
 refine nilP (h.rN (ar (by omega) (by omega) ?_))
 refine ifD (fun h4 => bad (by omega)) fun h4 => h0 ?_
 simp only [XA, Bool.and_eq_true, decide_eq_true_eq]
 omega
theorem HM (h : BH U p n S sb ms) (x : Nat) (hx : x <= 4611686018427387904) {R : Int -> Int -> Bool -> Hp -> Prop}
 (h1 : ∀ k q, can S k q = true -> x / 2 ^ k = q -> R (k : Int) ((q * 2 ^ k : Nat) : Int) true U) (h0 : S x = false -> R 0 0 false U) : Xy.call (some ⟨p, 0, none⟩) (x : Int) U R := by
 refine Xy.of_vc ?_
 unfold Xy.vc
 refine nilP (h.rB fun cap => ?_)
 refine YX (a := .i .i64) (fun t h' => ∃ k : Nat, t = (k : Int) /\ k <= ms.length /\ h' = U /\ ∀ j, j < k -> can S j (x / 2 ^ j) = false) (fun t _ => ms.length - t.toNat) ⟨0, rfl, by omega, rfl, fun j hj => by omega⟩ ?_
 rintro t h' ⟨k, rfl, hk, rfl, hall⟩
 have hl := h.len
 refine ifD (fun hlt => ?_) (fun hge => ?_)
 ·simp only at hlt
  obtain ⟨m, hm⟩ := h.get (k := k) (by omega)
  refine h.rM hm (nn (by omega) (nn (by omega) (shrl rfl (by omega) hx (h.lk hm rfl ?_))))
  cases hc : can S k (x / 2 ^ k)
  ·refine ifF (by simp) (arN (m := k + 1) (by omega) (by omega) ?_)
   refine ⟨⟨k + 1, rfl, by omega, rfl, fun j hj => ?_⟩, by omega⟩
   by_cases e : j = k
   ·rw [e]; exact hc
   ·exact hall j (by omega)
  ·exact ifT (by simp) (h1 k _ hc rfl)
 ·simp only at hge
  refine h0 ?_
  cases hs : S x
  ·rfl
  ·obtain ⟨j, hj⟩ := Km h.bnd hs
   have := h.fits (Zd h.bnd (Y4.1 hj).1)
   rw [hall j (by omega)] at hj
   cases hj
def isF (S : Nat -> Bool) (x : Int) : Bool := decide (0 <= x) && S x.toNat
theorem Way (h : BH U p n S sb ms) (x : Int) {R : Bool -> Hp -> Prop} (hR : R (isF S x) U) : XP.call (some ⟨p, 0, none⟩) x U R := by
 refine XP.of_vc ?_
 unfold XP.vc
 have n2 := h.n2
 refine UU h (JnB.intro (ifF rfl ?_))
 refine JnB.intro (ifD (fun h1 => ifT rfl ?_) fun h1 => nilP (h.rN ?_))
 ·have : isF S x = false := by simp [isF]; intro; omega
  rw [this] at hR; exact hR
 ·refine ifD (fun h2 => ?_) fun h2 => ?_
  ·have : isF S x = false := by
    simp only [isF]
    cases hs : S x.toNat
    ·simp
    ·have := h.bnd _ hs; omega
   rw [this] at hR; exact hR
  ·obtain ⟨y, rfl⟩ := Int.eq_ofNat_of_zero_le (show 0 <= x by omega)
   have e : isF S (y : Int) = S y := by simp [isF]
   rw [e] at hR
   refine HM h y (by omega) (fun k q hc hq => ?_) fun hs => ?_
   ·rw [QH hc hq] at hR; exact hR
   ·rw [hs] at hR; exact hR
theorem WiO {k q : Nat} (h : BH U p n S sb ms) (hf : q * 2 ^ k + 2 ^ k <= n) (hd : ∀ x, x / 2 ^ k = q -> S x = false) {R : Hp -> Prop}
 (hR : ∀ σ', Ext (· ∈ ms) U σ' -> BH σ' p n (ins S k q) sb ms -> R σ') : YK.call (some ⟨p, 0, none⟩) (k : Int) ((q * 2 ^ k : Nat) : Int) U R := by
 refine YK.of_vc ?_
 unfold YK.vc
 refine KA (a := .i .i64) (bb := .i .i64)
  (fun o s h' => ∃ (j r : Nat) (T : Nat -> Bool), o = (j : Int) /\ s = ((r * 2 ^ j : Nat) : Int) /\ r * 2 ^ j + 2 ^ j <= n /\ BH h' p n T sb ms /\ Ext (· ∈ ms) U h' /\ (∀ x, x / 2 ^ j = r -> T x = false) /\ ins T j r = ins S k q)
  (fun o _ _ => ms.length - o.toNat) ⟨k, q, S, rfl, rfl, hf, h, Ext.refl _ _, hd, rfl⟩ ?_
 rintro o s h' ⟨j, r, T, rfl, rfl, hjf, hT, hE, hdT, hins⟩
 have hl := hT.len
 have hj := hT.fits hjf
 have hn2 := hT.n2
 have hpj := Nat.two_pow_pos j
 obtain ⟨m, hm⟩ := hT.get hj
 have last : ¬ full (ins T j r) (j + 1) (r / 2) = true -> (NilP (some ⟨p, 0, none⟩) fun a49 => LdS (a49.add 1) h' fun t51 => Ix t51.a t51.len (j : Int) 1 fun a53 => LdM a53 h' fun t54 => MSet .i64 .b t54 ((r * 2 ^ j : Nat) : Int) true h' fun v3 => R v3) := by
  intro hup
  refine nilP (hT.rB fun cap => hT.rM hm ?_)
  refine hT.msetR hm hdT hup hjf rfl fun h'' e hB => hR h'' (hE.trans e) ?_
  rw [← hins]; exact hB
 refine arN (m := j + 1) (by omega) (by omega) (nilP (hT.rB fun cap => JnB.intro ?_))
 refine ifD (fun hlt => ?_) (fun hge => ?_)
 ·simp only at hlt
  refine nilP (hT.rB fun cap => hT.rM hm (shl1 (by omega) ?_))
  have hp62 := War (show j <= 62 by omega)
  have hx : bits .xor .i64 ((r * 2 ^ j : Nat) : Int) ((2 ^ j : Nat) : Int) = ((mate r * 2 ^ j : Nat) : Int) := by
   rw [WaM (by omega) (by omega), WgI]
  rw [hx]
  refine hT.lk hm rfl ?_
  cases hc : can T j (mate r)
  ·refine ifF (by simp) (last (WhA hdT (by simp [hc])))
  ·refine ifT (by simp) ?_
   refine nilP (hT.rB fun cap => hT.rM hm (shl1 (by omega) ?_))
   rw [hx]
   refine hT.mdelR hm hc rfl fun h'' e hB => ?_
   refine arN (m := j + 1) (by omega) (by omega) (nn (by omega) (arN (m := j + 1) (by omega) (by omega) (nn (by omega) ?_)))
   refine shrl rfl (by omega) (by omega) ?_
   refine arN (m := j + 1) (by omega) (by omega) ⟨⟨j + 1, r / 2, del T j (mate r), rfl, ?_, ?_, hB, hE.trans e, ?_, ?_⟩, by omega⟩
   ·rw [Nat.pow_succ, ← Nat.div_div_eq_div_mul, Qz]
   ·-- both halves lie within
    have h1 := Zd hT.bnd (Y4.1 hc).1
    have e2 : r / 2 * 2 ^ (j + 1) = (r / 2 * 2) * 2 ^ j := by rw [Nat.pow_succ, Nat.mul_comm (2 ^ j) 2, ← Nat.mul_assoc]
    rw [e2, Nat.pow_succ]
    have hup : (r / 2 * 2) + 1 = r ∨ (r / 2 * 2) + 1 = mate r := by unfold mate; split <;> omega
    have e3 : (r / 2 * 2) * 2 ^ j + 2 ^ j * 2 = ((r / 2 * 2) + 1) * 2 ^ j + 2 ^ j := by rw [Nat.add_mul]; omega
    rw [e3]
    rcases hup with e4 | e4 <;> rw [e4] <;> assumption
   ·intro x hx
    rcases VK.1 hx with h1 | h1
    ·simp [del, hdT x h1]
    ·simp [del, h1]
   ·rw [← hins]
    refine UV fun x => ?_
    rw [Q7, Q7, Q2, VK]
    by_cases h1 : x / 2 ^ j = mate r
    ·simp [h1, QH hc h1]
    ·simp [h1]
 ·simp only at hge
  refine ifF rfl (last fun hup => ?_)
  have := Zd (Wd1 hT.bnd hjf) hup
  have h1 : 2 ^ ms.length <= 2 ^ (j + 1) := Nat.pow_le_pow_right (by decide) (by omega)
  have := hT.hi
  omega
theorem WbK {a m : Nat} (h : BH U p n S sb ms) (hf : a + m <= n) (hd : ∀ x, a <= x -> x < a + m -> S x = false) {R : Hp -> Prop}
 (hR : ∀ σ', Ext (· ∈ ms) U σ' -> BH σ' p n (give S a (a + m)) sb ms -> R σ') : X6.call (some ⟨p, 0, none⟩) (a : Int) (m : Int) U R := by
 refine X6.of_vc ?_
 unfold X6.vc
 have hn2 := h.n2
 refine KA (a := .i .i64) (bb := .i .i64)
  (fun s c h' => ∃ (a' m' : Nat), s = (a' : Int) /\ c = (m' : Int) /\ a <= a' /\ a' + m' = a + m /\ BH h' p n (give S a a') sb ms /\ Ext (· ∈ ms) U h')
  (fun _ c _ => c.toNat) ⟨a, m, rfl, rfl, by omega, rfl, by rw [WfA]; exact h, Ext.refl _ _⟩ ?_
 rintro s c h' ⟨a', m', rfl, rfl, haa, ham, hB, hE⟩
 refine ifD (fun hpos => ?_) (fun hz => ?_)
 ·refine YX (a := .i .i64) (fun k h'' => ∃ j q : Nat, k = (j : Int) /\ a' = q * 2 ^ j /\ 2 ^ j <= m' /\ h'' = h') (fun k _ => 12 - k.toNat) ⟨0, a', rfl, by simp, by simp; omega, rfl⟩ ?_
  rintro k h'' ⟨j, q, rfl, hq, hjm, rfl⟩
  have hj : j <= 10 := by
   apply Classical.byContradiction
   intro hc
   have : 2 ^ 11 <= 2 ^ j := Nat.pow_le_pow_right (by decide) (by omega)
   omega
  refine arN (m := j + 1) (by omega) (by omega) (nn (by omega) (arN (m := j + 1) (by omega) (by omega) (nn (by omega) ?_)))
  refine shrl rfl (by omega) (by omega) (JnB.intro ?_)
  have stop : (YK.call (some ⟨p, 0, none⟩) (j : Int) (a' : Int) h'' fun v3 =>
   Nn (j : Int) <| Ar .i64 (1 * 2 ^ (min (j : Int).toNat IntKind.i64.bits)) fun t33 => Ar .i64 ((a' : Int) + t33) fun start2 =>
   Nn (j : Int) <| Ar .i64 (1 * 2 ^ (min (j : Int).toNat IntKind.i64.bits)) fun t37 => Ar .i64 ((m' : Int) - t37) fun pages2 =>
   (∃ (a'' m'' : Nat), start2 = (a'' : Int) /\ pages2 = (m'' : Int) /\ a <= a'' /\ a'' + m'' = a + m /\ BH v3 p n (give S a a'') sb ms /\ Ext (· ∈ ms) U v3) /\ pages2.toNat < (m' : Int).toNat) := by
   subst hq
   refine WiO hB (by omega) (fun x hx => ?_) fun v3 e hB' => ?_
   ·have := Zo.1 hx
    have h1 := hd x (by omega) (by omega)
    simp only [give, h1, Bool.false_or]
    rw [decide_eq_false (show ¬ x < q * 2 ^ j by omega), Bool.and_false]
   ·have hpos2 := Nat.two_pow_pos j
    refine shl1 (by omega) (arN (m := q * 2 ^ j + 2 ^ j) (by omega) (by omega) (shl1 (by omega) (arN (m := m' - 2 ^ j) (by omega) (by omega) ?_)))
    refine ⟨⟨_, _, rfl, rfl, by omega, by omega, ?_, hE.trans e⟩, by omega⟩
    rw [WfF, Weu haa (by omega)] at hB'
    exact hB'
  refine iff_ (fun he => ?_) (fun he => ifF rfl stop)
  have he' : a' / 2 ^ (j + 1) * 2 ^ (j + 1) = a' := by
   have := beq_iff_eq.1 he
   exact_mod_cast this
  refine arN (m := j + 1) (by omega) (by omega) (shl1 (by omega) ?_)
  refine ifD (fun hle => ?_) fun _ => stop
  refine arN (m := j + 1) (by omega) (by omega) ⟨⟨j + 1, a' / 2 ^ (j + 1), rfl, he'.symm, by omega, rfl⟩, by omega⟩
 ·have : m' = 0 := by omega
  subst this
  have : a' = a + m := by omega
  subst this
  exact hR h' hE hB
theorem WgV {a m : Nat} (h : BH U p n S sb ms) (hf : a + m <= n) (hd : ∀ x, a <= x -> x < a + m -> S x = true) {R : Hp -> Prop}
 (hR : ∀ σ', Ext (· ∈ ms) U σ' -> BH σ' p n (take S a (a + m)) sb ms -> R σ') : YL.call (some ⟨p, 0, none⟩) (a : Int) (m : Int) U R := by
 refine YL.of_vc ?_
 unfold YL.vc
 have hn2 := h.n2
 refine YX (a := .i .i64) (fun s h' => ∃ x : Nat, s = (x : Int) /\ a <= x /\ BH h' p n (take S a (min x (a + m))) sb ms /\ Ext (· ∈ ms) U h')
  (fun s _ => a + m - s.toNat) ⟨a, rfl, by omega, by rw [Nat.min_eq_left (by omega), WgJ]; exact h, Ext.refl _ _⟩ ?_
 rintro s h' ⟨x, rfl, hax, hB, hE⟩
 refine arN (m := a + m) (by omega) (by omega) ?_
 refine ifD (fun hlt => ?_) (fun hge => ?_)
 ·rw [Nat.min_eq_left (by omega)] at hB
  have hx : take S a x x = true := Qb.2 ⟨hd x hax (by omega), by omega⟩
  refine HM hB x (by omega) (fun k q hc hq => ?_) (fun hs => by rw [hx] at hs; cases hs)
  have hfb := Zd hB.bnd (Y4.1 hc).1
  have hk := hB.fits hfb
  have hl := hB.len
  obtain ⟨mm, hm⟩ := hB.get hk
  have hin := Zo.1 hq
  refine nilP (hB.rB fun cap => hB.rM hm ?_)
  refine hB.mdelR hm hc rfl fun h1 e1 hB1 => ?_
  refine shl1 (by omega) (arN (m := q * 2 ^ k + 2 ^ k) (by omega) (by omega) (arN (m := x - q * 2 ^ k) (by omega) (by omega) ?_))
  refine WbK hB1 (by omega) (fun y hy1 hy2 => ?_) fun h2 e2 hB2 => ?_
  ·have : y / 2 ^ k = q := Zo.2 (by omega)
   simp [del, this]
  ·have hE2 := (hE.trans e1).trans e2
   rw [show q * 2 ^ k + (x - q * 2 ^ k) = x by omega] at hB2
   have hblk : ∀ y, q * 2 ^ k <= y /\ y < q * 2 ^ k + 2 ^ k -> S y = true /\ ¬ (a <= y /\ y < x) := fun y hy => Qb.1 (QH hc (Zo.2 hy))
   refine arN (m := a + m) (by omega) (by omega) (ifD (fun hgt => ?_) fun hle => ?_)
   ·refine arN (m := q * 2 ^ k + 2 ^ k - (a + m)) (by omega) (by omega) ?_
    refine WbK hB2 (by omega) (fun y hy1 hy2 => ?_) fun h3 e3 hB3 => ?_
    ·have : y / 2 ^ k = q := Zo.2 (by omega)
     have hxy : ¬ y < x := by omega
     simp [give, del, this, hxy]
    ·refine ⟨⟨_, rfl, by omega, ?_, hE2.trans e3⟩, by omega⟩
     rw [Nat.min_eq_right (by omega)]
     have : give (give (del (take S a x) k q) (q * 2 ^ k) x) (a + m) (a + m + (q * 2 ^ k + 2 ^ k - (a + m))) = take S a (a + m) := by
      refine UV fun y => ?_
      have hy := hblk y
      simp only [Qg, Q2, Qb, Ne, Zo]
      generalize q * 2 ^ k = A at *
      generalize 2 ^ k = E at *
      cases hs : S y
      ·rw [hs] at hy
       simp only [Bool.false_eq_true, false_and, false_or, iff_false, imp_false] at hy ⊢
       omega
      ·rw [hs] at hy
       simp only [true_and] at hy ⊢
       omega
     rw [this] at hB3
     exact hB3
   ·refine ⟨⟨_, rfl, by omega, ?_, hE2⟩, by omega⟩
    rw [Nat.min_eq_left (by omega)]
    have : give (del (take S a x) k q) (q * 2 ^ k) x = take S a (q * 2 ^ k + 2 ^ k) := by
     refine UV fun y => ?_
     have hy := hblk y
     simp only [Qg, Q2, Qb, Ne, Zo]
     generalize q * 2 ^ k = A at *
     generalize 2 ^ k = E at *
     cases hs : S y
     ·rw [hs] at hy
      simp only [Bool.false_eq_true, false_and, false_or, iff_false, imp_false] at hy ⊢
      omega
     ·rw [hs] at hy
      simp only [true_and] at hy ⊢
      omega
    rw [this] at hB2
    exact hB2
 ·rw [Nat.min_eq_right (by omega)] at hB
  exact hR h' hE hB
end Go.Bu
namespace Go.Bu
open Go Go.Vc Go.Proofs


variable {U : Hp} {p n sb : Nat} {S : Nat -> Bool} {ms : List Nat}
def HE (S : Nat -> Bool) (a m : Nat) : Bool := (List.range m).all fun i => !S (a + i)
def allF (S : Nat -> Bool) (a m : Nat) : Bool := (List.range m).all fun i => S (a + i)
theorem QS {S : Nat -> Bool} {a m : Nat} : HE S a m = true ↔ ∀ x, a <= x -> x < a + m -> S x = false := by
 simp only [HE, List.all_eq_true, List.mem_range, Bool.not_eq_true']
 exact ⟨fun h x h1 h2 => by have := h (x - a) (by omega); rwa [show a + (x - a) = x by omega] at this, fun h i hi => h _ (by omega) (by omega)⟩
theorem Ku {S : Nat -> Bool} {a m : Nat} : allF S a m = true ↔ ∀ x, a <= x -> x < a + m -> S x = true := by
 simp only [allF, List.all_eq_true, List.mem_range]
 exact ⟨fun h x h1 h2 => by have := h (x - a) (by omega); rwa [show a + (x - a) = x by omega] at this, fun h i hi => h _ (by omega) (by omega)⟩
theorem WfP {S : Nat -> Bool} {a m x : Nat} (h1 : a <= x) (h2 : x < a + m) (h : S x = true) : HE S a m = false := by
 cases e : HE S a m
 ·rfl
 ·rw [QS.1 e x h1 h2] at h; cases h
theorem WhO {S : Nat -> Bool} {a m x : Nat} (h1 : a <= x) (h2 : x < a + m) (h : S x = false) : allF S a m = false := by
 cases e : allF S a m
 ·rfl
 ·rw [Ku.1 e x h1 h2] at h; cases h
def WfK (n : Nat) (S : Nat -> Bool) (a m : Int) : Int := if XA n a m then (if HE S a.toNat m.toNat then 0 else 9) else 1
def Zg (n : Nat) (S : Nat -> Bool) (a m : Int) : Nat -> Bool := if XA n a m && HE S a.toNat m.toNat then give S a.toNat (a.toNat + m.toNat) else S
def runE (n : Nat) (S : Nat -> Bool) (a m : Int) : Int := if XA n a m then (if allF S a.toNat m.toNat then 0 else 4) else 1
def runS (n : Nat) (S : Nat -> Bool) (a m : Int) : Nat -> Bool := if XA n a m && allF S a.toNat m.toNat then take S a.toNat (a.toNat + m.toNat) else S
theorem WaC {n : Nat} {a m : Int} (h : XA n a m = true) : ∃ x y : Nat, a = (x : Int) /\ m = (y : Int) /\ 1 <= y /\ x + y <= n := by
 simp only [XA, Bool.and_eq_true, decide_eq_true_eq] at h
 exact ⟨a.toNat, m.toNat, by omega, by omega, by omega, by omega⟩
theorem Give_ok (h : BH U p n S sb ms) (a m : Int) {R : Int -> Hp -> Prop}
 (hR : ∀ σ', Ext (· ∈ ms) U σ' -> BH σ' p n (Zg n S a m) sb ms -> R (WfK n S a m) σ') : Yb.call (some ⟨p, 0, none⟩) a m U R := by
 refine Yb.of_vc ?_
 unfold Yb.vc
 have hn2 := h.n2
 refine WbO h a m (fun hok => ifF rfl ?_) (fun hok => ifT rfl ?_)
 ·obtain ⟨x, y, rfl, rfl, hy, hxy⟩ := WaC hok
  refine YX (a := .i .i64) (fun t h' => ∃ z : Nat, t = (z : Int) /\ x <= z /\ h' = U /\ ∀ u, x <= u -> u < z -> S u = false) (fun t _ => x + y - t.toNat) ⟨x, rfl, by omega, rfl, fun u _ _ => by omega⟩ ?_
  rintro t h' ⟨z, rfl, hz, rfl, hall⟩
  refine arN (m := x + y) (by omega) (by omega) ?_
  refine ifD (fun hlt => Way h _ ?_) (fun hge => ?_)
  ·have e : isF S (z : Int) = S z := by simp [isF]
   rw [e]
   cases hs : S z
   ·refine ifF rfl (arN (m := z + 1) (by omega) (by omega) ⟨⟨z + 1, rfl, by omega, rfl, fun u h1 h2 => ?_⟩, by omega⟩)
    by_cases e : u = z
    ·rw [e]; exact hs
    ·exact hall u h1 (by omega)
   ·refine ifT rfl ?_
    have hno := WfP (m := y) hz (by omega) hs
    have := hR h' (Ext.refl _ _)
    simp only [WfK, Zg, hok, iTn, hno, Bool.and_false, if_true, Bool.false_eq_true, if_false] at this
    exact this h
  ·have hall' : ∀ u, x <= u -> u < x + y -> S u = false := fun u h1 h2 => hall u h1 (by omega)
   have hno := QS.2 hall'
   refine WbK h hxy hall' fun h1 e1 hB => ?_
   have := hR h1 e1
   simp only [WfK, Zg, hok, iTn, hno, Bool.and_true, if_true] at this
   exact this hB
 ·have := hR U (Ext.refl _ _)
  simp only [WfK, Zg, hok, Bool.false_and, Bool.false_eq_true, if_false] at this
  exact this h
theorem TakeRun_ok (h : BH U p n S sb ms) (a m : Int) {R : Int -> Hp -> Prop}
 (hR : ∀ σ', Ext (· ∈ ms) U σ' -> BH σ' p n (runS n S a m) sb ms -> R (runE n S a m) σ') : Xv.call (some ⟨p, 0, none⟩) a m U R := by
 refine Xv.of_vc ?_
 unfold Xv.vc
 have hn2 := h.n2
 refine WbO h a m (fun hok => ifF rfl ?_) (fun hok => ifT rfl ?_)
 ·obtain ⟨x, y, rfl, rfl, hy, hxy⟩ := WaC hok
  refine YX (a := .i .i64) (fun t h' => ∃ z : Nat, t = (z : Int) /\ x <= z /\ h' = U /\ ∀ u, x <= u -> u < z -> S u = true) (fun t _ => x + y - t.toNat) ⟨x, rfl, by omega, rfl, fun u _ _ => by omega⟩ ?_
  rintro t h' ⟨z, rfl, hz, rfl, hall⟩
  refine arN (m := x + y) (by omega) (by omega) ?_
  refine ifD (fun hlt => Way h _ ?_) (fun hge => ?_)
  ·have e : isF S (z : Int) = S z := by simp [isF]
   rw [e]
   cases hs : S z
   ·refine ifT rfl ?_
    have hno := WhO (m := y) hz (by omega) hs
    have := hR h' (Ext.refl _ _)
    simp only [runE, runS, hok, iTn, hno, Bool.and_false, if_true, Bool.false_eq_true, if_false] at this
    exact this h
   ·refine ifF rfl (arN (m := z + 1) (by omega) (by omega) ⟨⟨z + 1, rfl, by omega, rfl, fun u h1 h2 => ?_⟩, by omega⟩)
    by_cases e : u = z
    ·rw [e]; exact hs
    ·exact hall u h1 (by omega)
  ·have hall' : ∀ u, x <= u -> u < x + y -> S u = true := fun u h1 h2 => hall u h1 (by omega)
   have hno := Ku.2 hall'
   refine WgV h hxy hall' fun h1 e1 hB => ?_
   have := hR h1 e1
   simp only [runE, runS, hok, iTn, hno, Bool.and_true, if_true] at this
   exact this hB
 ·have := hR U (Ext.refl _ _)
  simp only [runE, runS, hok, Bool.false_and, Bool.false_eq_true, if_false] at this
  exact this h
theorem Wil {n : Nat} {S : Nat -> Bool} (hb : Bounded S n) (K : Nat) : sums n S K <= n := by
 rw [V8 hb]
 exact Nat.le_trans List.countP_le_length (by simp)
theorem Free_ok (h : BH U p n S sb ms) {R : Int -> Hp -> Prop} (hR : R ((cnt n S : Nat) : Int) U) : YN.call (some ⟨p, 0, none⟩) U R := by
 refine YN.of_vc ?_
 unfold YN.vc
 have hn2 := h.n2
 have hl := h.len
 refine UU h (ifF rfl (nilP (h.rB fun cap => ?_)))
 refine KA (a := .i .i64) (bb := .i .i64) (fun c t h' => ∃ k : Nat, c = ((sums n S k : Nat) : Int) /\ t = (k : Int) /\ k <= ms.length /\ h' = U) (fun _ t _ => ms.length - t.toNat) ⟨0, rfl, rfl, by omega, rfl⟩ ?_
 rintro c t h' ⟨k, rfl, rfl, hk, rfl⟩
 have hs1 := Wil h.bnd (k + 1)
 have hs : sums n S (k + 1) = sums n S k + many n S k * 2 ^ k := rfl
 refine ifD (fun hlt => ?_) (fun hge => ?_)
 ·simp only at hlt
  obtain ⟨m, hm⟩ := h.get (k := k) (by omega)
  refine h.rM hm (h.mlen hm (nn (by omega) (shlA (by omega) (by omega) ?_)))
  refine arN (m := sums n S (k + 1)) (by omega) (by omega) (arN (m := k + 1) (by omega) (by omega) ⟨⟨k + 1, rfl, rfl, by omega, rfl⟩, by omega⟩)
 ·simp only at hge
  have : k = ms.length := by omega
  subst this
  rw [WgG h.bnd h.hi]
  exact hR
end Go.Bu
namespace Go.Ar
open Go.Bu


def Hz (n : Nat) (h : Int) : Bool := decide (0 <= h) && decide (h < ((n / 16 : Nat) : Int))
def addE (st : List Nat) (h : Int) : Int := if Hz st.length h then (if st.getD (16 * h.toNat) 0 = 0 then 0 else 5) else 1
def addT (st : List Nat) (h : Int) : List Nat := if addE st h = 0 then setR st (16 * h.toNat) (16 * h.toNat + 16) 3 else st
def Wda (st : List Nat) (h : Nat) : Bool := st.getD (16 * h) 0 != 0 && cntR st (16 * h) (16 * h + 16) 1 == 0
def remE (st : List Nat) (h : Int) : Int := if Hz st.length h then (if Wda st h.toNat then 0 else 5) else 1
def remT (st : List Nat) (h : Int) : List Nat := if remE st h = 0 then setR st (16 * h.toNat) (16 * h.toNat + 16) 0 else st
def WcR (st : List Nat) (a m : Nat) (fr : List Nat) : Bool := ((st.drop a).take m).all fr.contains
def Uy (st : List Nat) (a m : Int) (fr : List Nat) : Int := if XA st.length a m then (if WcR st a.toNat m.toNat fr then 0 else 5) else 1
def Kb (st : List Nat) (a m : Int) (v : Nat) (fr : List Nat) : List Nat := if Uy st a m fr = 0 then setR st a.toNat (a.toNat + m.toNat) v else st
def QC (st : List Nat) (h : Nat) : Nat := if cntR st (16 * h) (16 * h + 16) 1 = 0 then 0 else if 0 < cntR st (16 * h) (16 * h + 16) 3 then 1 else 2
def Z9 (st : List Nat) (k : Nat) : List Nat := (List.range (st.length / 16)).filter fun h => st.getD (16 * h) 0 != 0 && QC st h == k
def used (st : List Nat) (h : Nat) : Nat := cntR st (16 * h) (16 * h + 16) 1
def bef (st : List Nat) (g h : Nat) : Bool :=
 decide (QC st g < QC st h) || (QC st g == QC st h && (decide (used st g < used st h) || (used st g == used st h && decide (h < g))))
def insH (st : List Nat) (l : List Nat) (h : Nat) : List Nat := l.takeWhile (fun g => bef st g h) ++ h :: l.dropWhile (fun g => bef st g h)
def ordT (st : List Nat) : List Nat := ((List.range (st.length / 16)).filter fun h => 0 < cntR st (16 * h) (16 * h + 16) 2).foldl (insH st) []
def runL (st : List Nat) (p m : Nat) : Nat := (((st.drop p).take m).takeWhile (· == 2)).length
def Ql (st : List Nat) (e : Nat) : Nat -> Nat -> List (Nat × Nat)
 | 0, _ => []
 | f + 1, p => if e <= p then [] else if runL st p (e - p) = 0 then Ql st e f (p + 1) else (p, runL st p (e - p)) :: Ql st e f (p + runL st p (e - p) + 1)
def KI (st : List Nat) (h : Nat) : List (Nat × Nat) := Ql st (16 * h + 16) 17 (16 * h)
def cutW (want : Int) : Nat -> List (Nat × Nat) -> List (Nat × Nat)
 | _, [] => []
 | p, r :: rs => if want <= (p : Int) then [] else r :: cutW want (p + r.2) rs
def Uc (st : List Nat) (want : Int) : List (Nat × Nat) := cutW want 0 ((ordT st).flatMap (KI st))
structure Sp where
 st : List Nat
 wd : Nat -> Int
 pk : Nat
def Sp.set (s : Sp) (a m v : Nat) : Sp := { s with st := setR s.st a (a + m) v, wd := fun w => if a * 32 <= w /\ w < (a + m) * 32 then 0 else s.wd w }
def Wii (st : List Nat) (a m v : Nat) : Bool := ((st.drop a).take m).contains v
def mapE (s : Sp) (a m : Int) : Int := if XA s.st.length a m then (if ((s.st.drop a.toNat).take m.toNat).any (· != 0) then 5 else 0) else 1
def mapS (s : Sp) (a m : Int) : Sp := if mapE s a m = 0 then s.set a.toNat m.toNat 1 else s
def VC (s : Sp) (a m : Int) : Int := if XA s.st.length a m then (if Wii s.st a.toNat m.toNat 0 then 7 else 0) else 1
def Kk (s : Sp) (a m : Int) (v : Nat) : Sp := if VC s a m = 0 then s.set a.toNat m.toNat v else s
def accE (s : Sp) (x : Int) : Int := if x < 0 ∨ x % 8 ≠ 0 then 7 else if s.st.getD (x.toNat / 256) 0 = 0 then 7 else 0
def putW (s : Sp) (w : Nat) (v : Int) : Sp :=
 { st := s.st.set (w / 32) 2, wd := fun u => if u = w then v else s.wd u, pk := if s.st.getD (w / 32) 0 = 2 then s.pk else max s.pk ((s.st.set (w / 32) 2).count 2) }
def QA (s : Sp) (x v : Int) : Sp := if accE s x = 0 then putW s (x.toNat / 8) v else s
end Go.Ar
namespace Go.Proofs
open Go.Vc

set_option maxRecDepth 100000
def Yf.hint : Hn := .q (.o 3) (.scope (.q (.k (.q (.o 4) (.c (.q (.o 2) (.l)) (.q (.o 3) (.c (.q (.o 2) (.l)) (.l)))))) (.q (.o 1) (.q (.q (.o 3) (.k (.loop [(6, .one .s), (23, .one (.i .i64))] (.q (.o 1) (.q (.c (.l) (.l)) (.q (.k (.q (.o 2) (.q (.o 5) (.c (.o 5) (.l))))) (.o 2))))))) (.q (.o 3) (.q (.o 1) (.q (.o 1) (.q (.l) (.q (.q (.o 3) (.k (.loop [(8, .one .s), (9, .one (.i .i64)), (41, .one (.i .i64))] (.q (.o 1) (.q (.c (.l) (.l)) (.q (.k (.q (.o 3) (.q (.o 1) (.k (.loop [(8, .one .s), (9, .one (.i .i64)), (12, .one (.i .i64))] (.q (.q (.o 2) (.c (.l) (.l))) (.q (.k (.q (.q (.o 3) (.c (.l) (.l))) (.q (.o 1) (.q (.k (.loop [(13, .one (.i .i64))] (.q (.q (.reg (.seq [.op, .op, .op, .op, .op, .grd true 9 [.op, .op, .op, .op, .op, .op, .op, .op, .op]])) (.c (.l) (.l))) (.k (.o 3))))) (.q (.o 2) (.c (.q (.o 10) (.q (.o 4) (.o 4))) (.l))))))) (.o 3)))))))) (.o 2))))))) (.q (.o 3) (.l)))))))))))
def Yf.vc (t : Option Addr) (want : Int) (U : Hp) (R : Sl -> Int -> Hp -> Prop) : Prop :=
 Nw (.cells #[.pointer t] 70 (0, 0)) U fun n2 v =>
 LdP n2 v fun t15 =>
 WS.call t15 v fun t16 v1 =>
 If (!t16) (R ⟨none, 0, 0⟩ 5 v1)
 (If (decide (want < 0)) (R ⟨none, 0, 0⟩ 1 v1)
 (LdP n2 v1 fun t21 =>
 XM.call t21 v1 fun t22 v2 =>
 Xe [.s, (.i .i64)] (fun I => I ⟨none, 0, 0⟩ 0 v2) fun J (order : Sl) (t23 : Int) v3 =>
 If (decide (t23 < t22)) (LdP n2 v3 fun t26 =>
 Xo.call t26 t23 v3 fun t28 v4 =>
 YZ.call t28 2 v4 fun t29 v5 =>
 If (decide (t29 > 0)) (Nw (.cells #[.int .i64 t23] 3 (0, 0)) v5 fun n33 v6 =>
 App order 1 8 3 [.int .i64 0] ⟨(some n33), 1, 1⟩ v6 fun order1 v7 =>
 Ar .i64 (t23 + 1) fun t35 =>
 J order1 t35 v7)
 (Ar .i64 (t23 + 1) fun t351 =>
 J order t351 v5))
 (WX.call order ⟨153, #[], #[.pointer (some n2)]⟩ v3 fun v8 =>
 Xe [.s, (.i .i64), (.i .i64)] (fun I1 => I1 ⟨none, 0, 0⟩ 0 0 v8) fun J1 (out : Sl) (planned : Int) (t41 : Int) v9 =>
 If (decide (t41 < ((order.len : Nat) : Int))) (Ix order.a order.len t41 1 fun a43 =>
 LdI .i64 a43 v9 fun vh =>
 Xe [.s, (.i .i64), (.i .i64)] (fun I2 => I2 out planned 0 v9) fun J2 (out1 : Sl) (planned1 : Int) (i : Int) v10 =>
 If (decide (i < 16)) (If (decide (planned1 ≥ want)) (R out1 0 v10)
 (Xe [(.i .i64)] (fun I3 => I3 0 v10) fun J3 (n : Int) v11 =>
 Ar .i64 (i + n) fun t54 =>
 JnB (fun r v12 =>
 If r (Ar .i64 (n + 1) fun n1 =>
 J3 n1 v12)
 (If (decide (n > 0)) (Ar .i64 (vh * 16) fun t73 =>
 Ar .i64 (t73 + i) fun t75 =>
 Nw (.cells #[.int .i64 t75, .int .i64 n] 123 (0, 0)) v12 fun n78 v13 =>
 App out1 2 16 123 [.int .i64 0, .int .i64 0] ⟨(some n78), 1, 1⟩ v13 fun out2 v14 =>
 Ar .i64 (planned1 + n) fun planned2 =>
 Ar .i64 (i + n) fun i1 =>
 Ar .i64 (i1 + 1) fun i2 =>
 J2 out2 planned2 i2 v14)
 (Ar .i64 (i + 1) fun i3 =>
 J2 out1 planned1 i3 v12))) fun J4 =>
 If (decide (t54 < 16)) (LdP n2 v11 fun t57 =>
 Xo.call t57 vh v11 fun t59 v15 =>
 Ar .i64 (i + n) fun t62 =>
 Ix t59.a t59.len t62 1 fun a63 =>
 LdI .i64 a63 v15 fun t64 =>
 J4 (t64 == 2) v15)
 (J4 false v11)))
 (Ar .i64 (t41 + 1) fun t86 =>
 J1 out1 planned1 t86 v10))
 (R out 0 v9))))
theorem Yf.of_vc {t want U R} (hv : Yf.vc t want U R) : Yf.call t want U R :=
 Wa Tryz.func70 (x := Yf.hint) (Eq.mpr (by kernel_rfl) hv)
def Xb.hint : Hn := .q (.o 1) (.q (.o 6) (.l))
def Xb.vc (t : Option Addr) (start : Int) (pages : Int) (U : Hp) (R : Int -> Hp -> Prop) : Prop :=
 Nw (.cells #[.int .i64 2] 3 (0, 0)) U fun n10 v =>
 Xr.call t start pages 3 ⟨(some n10), 1, 1⟩ v fun t11 v1 =>
 R t11 v1
theorem Xb.of_vc {t start pages U R} (hv : Xb.vc t start pages U R) : Xb.call t start pages U R :=
 Wa Tryz.func71 (x := Xb.hint) (Eq.mpr (by kernel_rfl) hv)
def Yq.hint : Hn := .q (.o 1) (.q (.o 3) (.l))
def Yq.vc (t : Option Addr) (U : Hp) (R : Sl -> Hp -> Prop) : Prop :=
 X0.call t 0 U fun t4 v =>
 R t4 v
theorem Yq.of_vc {t U R} (hv : Yq.vc t U R) : Yq.call t U R :=
 Wa Tryz.func73 (x := Yq.hint) (Eq.mpr (by kernel_rfl) hv)
def Xn.hint : Hn := .q (.o 1) (.q (.o 8) (.q (.k (.q (.o 3) (.c (.q (.o 2) (.l)) (.q (.o 4) (.c (.q (.o 1) (.l)) (.l)))))) (.q (.o 2) (.q (.o 1) (.l)))))
def Xn.vc (t : Option Addr) (huge : Int) (U : Hp) (R : Int -> Hp -> Prop) : Prop :=
 XR.call t huge U fun t10 t101 v =>
 If (t101 != 0) (R t101 v)
 (Z2.call t10 v fun t19 v1 =>
 If (!t19) (R 5 v1)
 (Zz.call t10 0 v1 fun v2 =>
 R 0 v2))
theorem Xn.of_vc {t huge U R} (hv : Xn.vc t huge U R) : Xn.call t huge U R :=
 Wa Tryz.func74 (x := Xn.hint) (Eq.mpr (by kernel_rfl) hv)
def XX.hint : Hn := .q (.o 1) (.q (.q (.reg (.seq [.op, .op, .op, .op, .grd false 2 [.op, .op], .op, .grd false 7 [.op, .op, .op, .op, .op, .op, .op]])) (.c (.q (.o 1) (.l)) (.l))) (.q (.o 8) (.l)))
def XX.vc (t : Option Addr) (page : Int) (U : Hp) (R : Int -> Hp -> Prop) : Prop :=
 WS.call t U fun t6 v =>
 JnB (fun r v1 =>
 JnB (fun r1 v2 =>
 If r1 (R (-1) v2)
 (NilP t fun a22 =>
 LdS (a22.add 0) v2 fun t24 =>
 Ix t24.a t24.len page 1 fun a26 =>
 LdI .i64 a26 v2 fun t27 =>
 R t27 v2)) fun J1 =>
 If r (J1 true v1)
 (NilP t fun a15 =>
 LdS (a15.add 0) v1 fun t17 =>
 J1 (decide (page ≥ ((t17.len : Nat) : Int))) v1)) fun J =>
 If (!t6) (J true v)
 (J (decide (page < 0)) v)
theorem XX.of_vc {t page U R} (hv : XX.vc t page U R) : XX.call t page U R :=
 Wa Tryz.func78 (x := XX.hint) (Eq.mpr (by kernel_rfl) hv)
def Qw.hint : Hn := .q (.o 2) (.q (.q (.reg (.seq [.op, .op, .op, .grd false 2 [.op, .op], .op, .grd false 3 [.op, .op, .op]])) (.c (.q (.o 2) (.l)) (.l))) (.q (.o 6) (.l)))
def Qw.vc (pages : Int) (U : Hp) (R : Option Addr -> Int -> Hp -> Prop) : Prop :=
 JnB (fun r v =>
 JnB (fun r1 v1 =>
 If r1 (R none 1 v1)
 (Mk pages pages 8 3 [.int .i64 0] v1 fun t16 v2 =>
 Nw (.cells #[.slice t16.a t16.len t16.cap] 199 (0, 0)) v2 fun n18 v3 =>
 R (some n18) 0 v3)) fun J1 =>
 If r (J1 true v)
 (Nz 16 <|
 J1 ((pages.tmod 16) != 0) v)) fun J =>
 If (decide (pages < 16)) (J true U)
 (J (decide (pages > 1024)) U)
theorem Qw.of_vc {pages U R} (hv : Qw.vc pages U R) : Qw.call pages U R :=
 Wa Tryz.func89 (x := Qw.hint) (Eq.mpr (by kernel_rfl) hv)
def W7.hint : Hn := .q (.o 1) (.q (.q (.o 3) (.c (.q (.o 1) (.l)) (.l))) (.q (.o 8) (.l)))
def W7.vc (t : Option Addr) (U : Hp) (R : Option Addr -> Hp -> Prop) : Prop :=
 WS.call t U fun t4 v =>
 If (!t4) (R none v)
 (NilP t fun a7 =>
 LdS (a7.add 0) v fun t9 =>
 Wu.call t9 v fun t10 v1 =>
 Nw (.cells #[.slice t10.a t10.len t10.cap] 199 (0, 0)) v1 fun n12 v2 =>
 R (some n12) v2)
theorem W7.of_vc {t U R} (hv : W7.vc t U R) : W7.call t U R :=
 Wa Tryz.func104 (x := W7.hint) (Eq.mpr (by kernel_rfl) hv)
def Xz.hint : Hn := .q (.o 1) (.q (.o 6) (.l))
def Xz.vc (t : Option Addr) (start : Int) (pages : Int) (U : Hp) (R : Int -> Hp -> Prop) : Prop :=
 Nw (.cells #[.int .i64 1] 3 (0, 0)) U fun n10 v =>
 Xr.call t start pages 2 ⟨(some n10), 1, 1⟩ v fun t11 v1 =>
 R t11 v1
theorem Xz.of_vc {t start pages U R} (hv : Xz.vc t start pages U R) : Xz.call t start pages U R :=
 Wa Tryz.func144 (x := Xz.hint) (Eq.mpr (by kernel_rfl) hv)
def WS.hint : Hn := .q (.o 1) (.q (.reg (.seq [.op, .op, .op, .grd true 6 [.op, .op, .op, .op, .op, .op], .op])) (.l))
def WS.vc (t : Option Addr) (U : Hp) (R : Bool -> Hp -> Prop) : Prop :=
 JnB (fun r v =>
 R r v) fun J =>
 If (!t.isNone) (NilP t fun a7 =>
 LdS (a7.add 0) U fun t9 =>
 J (decide (((t9.len : Nat) : Int) > 0)) U)
 (J false U)
theorem WS.of_vc {t U R} (hv : WS.vc t U R) : WS.call t U R :=
 Wa Tryz.func148 (x := WS.hint) (Eq.mpr (by kernel_rfl) hv)
def XM.hint : Hn := .q (.o 1) (.q (.o 7) (.l))
def XM.vc (t : Option Addr) (U : Hp) (R : Int -> Hp -> Prop) : Prop :=
 NilP t fun a4 =>
 LdS (a4.add 0) U fun t6 =>
 Nz 16 <| Ar .i64 (((t6.len : Nat) : Int).tdiv 16) fun t8 =>
 R t8 U
theorem XM.of_vc {t U R} (hv : XM.vc t U R) : XM.call t U R :=
 Wa Tryz.func149 (x := XM.hint) (Eq.mpr (by kernel_rfl) hv)
def YZ.hint : Hn := .q (.o 1) (.q (.o 1) (.q (.q (.o 3) (.k (.loop [(5, .one (.i .i64)), (10, .one (.i .i64))] (.q (.o 1) (.q (.c (.l) (.l)) (.q (.k (.q (.o 3) (.q (.o 3) (.c (.o 3) (.l))))) (.o 2))))))) (.q (.o 2) (.l))))
def YZ.vc (l : Sl) (state : Int) (U : Hp) (R : Int -> Hp -> Prop) : Prop :=
 Xe [(.i .i64), (.i .i64)] (fun I => I 0 0 U) fun J (n : Int) (t10 : Int) v =>
 If (decide (t10 < ((l.len : Nat) : Int))) (Ix l.a l.len t10 1 fun a12 =>
 LdI .i64 a12 v fun s =>
 If (s == state) (Ar .i64 (n + 1) fun n1 =>
 Ar .i64 (t10 + 1) fun t19 =>
 J n1 t19 v)
 (Ar .i64 (t10 + 1) fun t191 =>
 J n t191 v))
 (R n v)
theorem YZ.of_vc {l state U R} (hv : YZ.vc l state U R) : YZ.call l state U R :=
 Wa Tryz.func150 (x := YZ.hint) (Eq.mpr (by kernel_rfl) hv)
def Xo.hint : Hn := .q (.o 1) (.q (.o 11) (.l))
def Xo.vc (t : Option Addr) (huge : Int) (U : Hp) (R : Sl -> Hp -> Prop) : Prop :=
 NilP t fun a6 =>
 LdS (a6.add 0) U fun t8 =>
 Ar .i64 (huge * 16) fun t10 =>
 Ar .i64 (huge + 1) fun t12 =>
 Ar .i64 (t12 * 16) fun t13 =>
 SlcL t8 1 t10 t13 (t8.cap : Nat) fun t14 =>
 R t14 U
theorem Xo.of_vc {t huge U R} (hv : Xo.vc t huge U R) : Xo.call t huge U R :=
 Wa Tryz.func151 (x := Xo.hint) (Eq.mpr (by kernel_rfl) hv)
def XH.hint : Hn := .q (.o 1) (.q (.reg (.held true [] (.take 0 (.take 1 (.take 3 (.take 4 (.all [(2, .all [(5, .take 6 (.take 7 (.done)))])]))))))) (.q (.q (.o 6) (.q (.o 2) (.c (.q (.o 2) (.l)) (.l)))) (.q (.q (.o 6) (.q (.o 2) (.c (.q (.o 2) (.l)) (.l)))) (.q (.o 4) (.l)))))
def XH.vc (g : Int) (vh : Int) (cap0 : Addr) (U : Hp) (R : Int -> Hp -> Prop) : Prop :=
 Held U fun S =>
 LdH S .p cap0 fun (t10 : Option Addr) =>
 LdH S .p cap0 fun (t13 : Option Addr) =>
 Xo.call t10 g U fun a v =>
 And (S v) <|
 Xo.call t13 vh v fun b v1 =>
 And (S v1) <|
 ZG.call a v1 fun t17 v2 =>
 ZG.call b v2 fun t19 v3 =>
 Ar .i64 (t17 - t19) fun d =>
 If (d != 0) (R d v3)
 (YZ.call a 1 v3 fun t25 v4 =>
 YZ.call b 1 v4 fun t27 v5 =>
 Ar .i64 (t25 - t27) fun d1 =>
 If (d1 != 0) (R d1 v5)
 (Ar .i64 (vh - g) fun t34 =>
 R t34 v5))
theorem XH.of_vc {g vh cap0 U R} (hv : XH.vc g vh cap0 U R) : XH.call g vh cap0 U R :=
 Wa Tryz.func153 (x := XH.hint) (Eq.mpr (by kernel_rfl) hv)
def ZG.hint : Hn := .q (.o 1) (.q (.k (.q (.o 4) (.c (.q (.o 1) (.l)) (.q (.o 4) (.c (.q (.o 1) (.l)) (.l)))))) (.q (.o 1) (.l)))
def ZG.vc (l : Sl) (U : Hp) (R : Int -> Hp -> Prop) : Prop :=
 YZ.call l 1 U fun t5 v =>
 If (t5 == 0) (R 0 v)
 (YZ.call l 3 v fun t9 v1 =>
 If (decide (t9 > 0)) (R 1 v1)
 (R 2 v1))
theorem ZG.of_vc {l U R} (hv : ZG.vc l U R) : ZG.call l U R :=
 Wa Tryz.func154 (x := ZG.hint) (Eq.mpr (by kernel_rfl) hv)
def Xr.hint : Hn := .q (.o 2) (.q (.k (.q (.o 4) (.c (.q (.o 1) (.l)) (.q (.reg (.seq [.op, .op, .op, .grd false 2 [.op, .op], .op, .grd false 7 [.op, .op, .op, .op, .op, .op, .op], .op, .grd false 9 [.op, .op, .op, .op, .op, .op, .op, .op, .op], .op])) (.c (.q (.o 1) (.l)) (.l)))))) (.q (.o 10) (.q (.q (.o 3) (.c (.q (.o 1) (.l)) (.l))) (.q (.o 3) (.q (.o 1) (.l))))))
def Xr.vc (t : Option Addr) (start : Int) (pages : Int) (to : Int) (vfrom : Sl) (U : Hp) (R : Int -> Hp -> Prop) : Prop :=
 Nw (.cells #[.slice vfrom.a vfrom.len vfrom.cap] 42 (0, 0)) U fun n9 v =>
 WS.call t v fun t14 v1 =>
 If (!t14) (R 5 v1)
 (JnB (fun r v2 =>
 JnB (fun r1 v3 =>
 JnB (fun r2 v4 =>
 If r2 (R 1 v4)
 (NilP t fun a44 =>
 LdS (a44.add 0) v4 fun t46 =>
 Ar .i64 (start + pages) fun t50 =>
 SlcL t46 1 start t50 (t46.cap : Nat) fun l =>
 Wx.call l ⟨218, #[], #[.pointer (some n9)]⟩ v4 fun t54 v5 =>
 If t54 (R 5 v5)
 (Zz.call l to v5 fun v6 =>
 R 0 v6))) fun J2 =>
 If r1 (J2 true v3)
 (NilP t fun a35 =>
 LdS (a35.add 0) v3 fun t37 =>
 Ar .i64 (((t37.len : Nat) : Int) - start) fun t40 =>
 J2 (decide (pages > t40)) v3)) fun J1 =>
 If r (J1 true v2)
 (NilP t fun a26 =>
 LdS (a26.add 0) v2 fun t28 =>
 J1 (decide (start > ((t28.len : Nat) : Int))) v2)) fun J =>
 If (decide (start < 0)) (J true v1)
 (J (decide (pages < 1)) v1))
theorem Xr.of_vc {t start pages to vfrom U R} (hv : Xr.vc t start pages to vfrom U R) : Xr.call t start pages to vfrom U R :=
 Wa Tryz.func155 (x := Xr.hint) (Eq.mpr (by kernel_rfl) hv)
def X0.hint : Hn := .q (.o 1) (.q (.q (.o 3) (.c (.q (.o 1) (.l)) (.l))) (.q (.o 1) (.q (.q (.o 3) (.k (.loop [(5, .one .s), (13, .one (.i .i64))] (.q (.o 1) (.q (.c (.l) (.l)) (.q (.k (.q (.o 2) (.q (.o 4) (.q (.reg (.seq [.op, .op, .op, .op, .op, .grd true 4 [.op, .op, .op, .op]])) (.c (.o 5) (.l)))))) (.o 2))))))) (.q (.o 2) (.l)))))
def X0.vc (t : Option Addr) (is : Int) (U : Hp) (R : Sl -> Hp -> Prop) : Prop :=
 WS.call t U fun t9 v =>
 If (!t9) (R ⟨none, 0, 0⟩ v)
 (XM.call t v fun t12 v1 =>
 Xe [.s, (.i .i64)] (fun I => I ⟨none, 0, 0⟩ 0 v1) fun J (out : Sl) (t13 : Int) v2 =>
 If (decide (t13 < t12)) (Xo.call t t13 v2 fun l v3 =>
 Ix l.a l.len 0 1 fun a20 =>
 LdI .i64 a20 v3 fun t21 =>
 JnB (fun r v4 =>
 If r (Nw (.cells #[.int .i64 t13] 3 (0, 0)) v4 fun n31 v5 =>
 App out 1 8 3 [.int .i64 0] ⟨(some n31), 1, 1⟩ v5 fun out1 v6 =>
 Ar .i64 (t13 + 1) fun t33 =>
 J out1 t33 v6)
 (Ar .i64 (t13 + 1) fun t331 =>
 J out t331 v4)) fun J1 =>
 If (t21 != 0) (ZG.call l v3 fun t25 v7 =>
 J1 (t25 == is) v7)
 (J1 false v3))
 (R out v2))
theorem X0.of_vc {t is U R} (hv : X0.vc t is U R) : X0.call t is U R :=
 Wa Tryz.func157 (x := X0.hint) (Eq.mpr (by kernel_rfl) hv)
def XR.hint : Hn := .q (.o 2) (.q (.k (.q (.o 4) (.c (.q (.o 2) (.l)) (.q (.reg (.seq [.op, .op, .op, .grd false 4 [.op, .op, .op, .op], .op])) (.c (.q (.o 2) (.l)) (.l)))))) (.q (.o 5) (.l)))
def XR.vc (t : Option Addr) (huge : Int) (U : Hp) (R : Sl -> Int -> Hp -> Prop) : Prop :=
 WS.call t U fun t8 v =>
 If (!t8) (R ⟨none, 0, 0⟩ 5 v)
 (JnB (fun r v1 =>
 If r (R ⟨none, 0, 0⟩ 1 v1)
 (Xo.call t huge v1 fun t21 v2 =>
 R t21 0 v2)) fun J =>
 If (decide (huge < 0)) (J true v)
 (XM.call t v fun t16 v3 =>
 J (decide (huge ≥ t16)) v3))
theorem XR.of_vc {t huge U R} (hv : XR.vc t huge U R) : XR.call t huge U R :=
 Wa Tryz.func158 (x := XR.hint) (Eq.mpr (by kernel_rfl) hv)
def Z2.hint : Hn := .q (.o 1) (.q (.reg (.seq [.op, .op, .op, .op, .op, .grd true 3 [.op, .op, .op], .op])) (.l))
def Z2.vc (l : Sl) (U : Hp) (R : Bool -> Hp -> Prop) : Prop :=
 Ix l.a l.len 0 1 fun a4 =>
 LdI .i64 a4 U fun t5 =>
 JnB (fun r v =>
 R r v) fun J =>
 If (t5 != 0) (YZ.call l 1 U fun t9 v1 =>
 J (t9 == 0) v1)
 (J false U)
theorem Z2.of_vc {l U R} (hv : Z2.vc l U R) : Z2.call l U R :=
 Wa Tryz.func159 (x := Z2.hint) (Eq.mpr (by kernel_rfl) hv)
def Zz.hint : Hn := .q (.o 3) (.k (.loop [(7, .one (.i .i64))] (.q (.o 1) (.q (.c (.l) (.l)) (.q (.k (.q (.o 2) (.o 5))) (.o 2))))))
def Zz.vc (l : Sl) (state : Int) (U : Hp) (R : Hp -> Prop) : Prop :=
 Xe [(.i .i64)] (fun I => I 0 U) fun J (t7 : Int) v =>
 If (decide (t7 < ((l.len : Nat) : Int))) (Ix l.a l.len t7 1 fun a13 =>
 St1 a13 (.int .i64 state) v fun v1 =>
 Ar .i64 (t7 + 1) fun t14 =>
 J t14 v1)
 (R v)
theorem Zz.of_vc {l state U R} (hv : Zz.vc l state U R) : Zz.call l state U R :=
 Wa Tryz.func160 (x := Zz.hint) (Eq.mpr (by kernel_rfl) hv)
def XL.hint : Hn := .q (.o 1) (.q (.o 6) (.l))
def XL.vc (t : Option Addr) (start : Int) (pages : Int) (U : Hp) (R : Int -> Hp -> Prop) : Prop :=
 Nw (.cells #[.int .i64 2, .int .i64 3] 3 (0, 0)) U fun n10 v =>
 Xr.call t start pages 1 ⟨(some n10), 2, 2⟩ v fun t11 v1 =>
 R t11 v1
theorem XL.of_vc {t start pages U R} (hv : XL.vc t start pages U R) : XL.call t start pages U R :=
 Wa Tryz.func168 (x := XL.hint) (Eq.mpr (by kernel_rfl) hv)
def Yr.hint : Hn := .q (.o 1) (.q (.o 5) (.l))
def Yr.vc (s : Int) (cap0 : Addr) (U : Hp) (R : Bool -> Hp -> Prop) : Prop :=
 LdS cap0 U fun t4 =>
 Wn.call t4 s U fun t6 v =>
 R (!t6) v
theorem Yr.of_vc {s cap0 U R} (hv : Yr.vc s cap0 U R) : Yr.call s cap0 U R :=
 Wa Tryz.func218 (x := Yr.hint) (Eq.mpr (by kernel_rfl) hv)
def Ya.hint : Hn := .q (.o 1) (.q (.o 8) (.q (.k (.q (.o 3) (.c (.q (.o 2) (.l)) (.q (.o 5) (.c (.q (.o 1) (.l)) (.l)))))) (.q (.o 2) (.q (.o 1) (.l)))))
def Ya.vc (t : Option Addr) (huge : Int) (U : Hp) (R : Int -> Hp -> Prop) : Prop :=
 XR.call t huge U fun t10 t101 v =>
 If (t101 != 0) (R t101 v)
 (Ix t10.a t10.len 0 1 fun a19 =>
 LdI .i64 a19 v fun t20 =>
 If (t20 != 0) (R 5 v)
 (Zz.call t10 3 v fun v1 =>
 R 0 v1))
theorem Ya.of_vc {t huge U R} (hv : Ya.vc t huge U R) : Ya.call t huge U R :=
 Wa Tryz.func227 (x := Ya.hint) (Eq.mpr (by kernel_rfl) hv)
end Go.Proofs
namespace Go.Ar
open Go Go.Vc Go.Proofs
open Go.Bu (XA)


variable {U : Hp} {F : Rg} {p q : Nat} {st : List Nat}
structure TrH (U : Hp) (p q : Nat) (st : List Nat) : Prop where
 hd : ∃ cap, st.length <= cap /\ Blk U p [.slice (some ⟨q, 0, none⟩) st.length cap]
 row : ∃ rest, Blk U q (ints st ++ rest)
 ne : p ≠ q
 n1 : 16 <= st.length
 n2 : st.length <= 1024
 n3 : st.length % 16 = 0
theorem TrH.keep {σ' : Hp} (h : TrH U p q st) (e : Ext F U σ') (hp : ¬ F p) (hq : ¬ F q) : TrH σ' p q st :=
 ⟨by obtain ⟨c, h1, h2⟩ := h.hd; exact ⟨c, h1, e.blk h2 hp⟩, by obtain ⟨r, h1⟩ := h.row; exact ⟨r, e.blk h1 hq⟩, h.ne, h.n1, h.n2, h.n3⟩
theorem TrH.keep0 {σ' : Hp} (h : TrH U p q st) (e : Ext0 U σ') : TrH σ' p q st := h.keep e id id
theorem TrH.lt (h : TrH U p q st) : p < U.size /\ q < U.size := by
 obtain ⟨_, _, h1⟩ := h.hd; obtain ⟨_, h2⟩ := h.row; exact ⟨h1.lt, h2.lt⟩
theorem TrH.rS (h : TrH U p q st) {K : Sl -> Prop} (hK : ∀ cap, st.length <= cap -> K ⟨some ⟨q, 0, none⟩, st.length, cap⟩) : LdS (Addr.add ⟨p, 0, none⟩ 0) U K := by
 obtain ⟨c, h1, h2⟩ := h.hd
 exact h2.rS rfl (hK c h1)
theorem TrH.part (h : TrH U p q st) {s : Sl} {a n : Nat} (ha : s.a = some ⟨q, a, none⟩) (hn : s.len = n) (hl : a + n <= st.length) : SlR s 1 (ints ((st.drop a).take n)) U (· = q) := by
 obtain ⟨r, h2⟩ := h.row
 have hlen : ((st.drop a).take n).length = n := by simp; omega
 refine h2.slR ha (by rw [ZN, hlen, hn]; simp) fun j hj => ?_
 rw [ZN, hlen] at hj
 rw [List.getElem?_append_left (by rw [ZN]; omega)]
 simp [ints, List.getElem?_take, hj, List.getElem?_drop]
theorem WfQ {s : Sl} {xs : List Nat} (h : SlR s 1 (ints xs) U F) (hl : xs.length <= 1000000) (v : Nat) {R : Int -> Hp -> Prop} (hR : R ((xs.count v : Nat) : Int) U) : YZ.call s v U R := by
 refine YZ.of_vc ?_
 unfold YZ.vc
 have hlen := h.lenN
 refine KA (a := .i .i64) (bb := .i .i64) (fun (n t : Int) h' => ∃ i : Nat, t = (i : Int) /\ i <= xs.length /\ n = (((xs.take i).count v : Nat) : Int) /\ h' = U) (fun _ t _ => xs.length - t.toNat) ⟨0, rfl, by omega, by simp, rfl⟩ ?_
 rintro n t h' ⟨i, rfl, hi, rfl, rfl⟩
 refine ifD (fun hlt => ?_) fun hge => ?_
 ·have hi' : i < xs.length := by omega
  have hx : xs[i]? = some xs[i] := gGe hi'
  have hc : (xs.take (i + 1)).count v = (xs.take i).count v + if xs[i] = v then 1 else 0 := by
   rw [List.take_add_one, hx, Option.toList_some, List.count_append, List.count_singleton]
   congr 1
   by_cases h : xs[i] = v <;> simp [h]
  have hle : (xs.take i).count v <= i := Nat.le_trans List.count_le_length (by simp; omega)
  refine h.ixN hx (iff_ (fun he => ?_) fun he => ?_)
  ·have he' : xs[i] = v := by rw [beqN] at he; simpa using he
   rw [if_pos he'] at hc
   exact arN (m := (xs.take i).count v + 1) (by omega) (by omega) (arN (m := i + 1) (by omega) (by omega) ⟨⟨i + 1, rfl, by omega, by rw [hc], rfl⟩, by omega⟩)
  ·have he' : ¬ xs[i] = v := by rw [beqN] at he; simpa using he
   rw [if_neg he', Nat.add_zero] at hc
   exact arN (m := i + 1) (by omega) (by omega) ⟨⟨i + 1, rfl, by omega, congrArg _ hc.symm, rfl⟩, by omega⟩
 ·have : i = xs.length := by omega
  subst this
  rw [List.take_length] at *
  exact hR
theorem fill_ok {b o n c : Nat} {cs : List Value} (hb : Blk U b cs) (hl : o + n <= cs.length) (hn : n <= 1000000) (v : Nat) {R : Hp -> Prop}
 (hR : ∀ σ', Z5 U σ' b -> Blk σ' b (cs.take o ++ List.replicate n (.int .i64 (v : Int)) ++ cs.drop (o + n)) -> R σ') : Zz.call ⟨some ⟨b, o, none⟩, n, c⟩ v U R := by
 refine Zz.of_vc ?_
 unfold Zz.vc
 refine YX (a := .i .i64) (fun (t : Int) h' => ∃ i : Nat, t = (i : Int) /\ i <= n /\ Z5 U h' b /\ Blk h' b (cs.take o ++ List.replicate i (.int .i64 (v : Int)) ++ cs.drop (o + i))) (fun t _ => n - t.toNat) ⟨0, rfl, by omega, ⟨rfl, fun _ _ => rfl⟩, by simpa using hb⟩ ?_
 rintro t h' ⟨i, rfl, hi, ho, hbi⟩
 refine ifD (fun hlt => ?_) fun hge => ?_
 ·simp only at hlt
  refine ix (by omega) (by simp only; omega) ?_
  rw [add_lit]
  refine hbi.s0 (by simp; omega) fun h2 ho2 hb2 => ?_
  refine arN (m := i + 1) (by omega) (by omega) ⟨⟨i + 1, rfl, by omega, ⟨ho2.1.trans ho.1, fun k hk => (ho2.2 k hk).trans (ho.2 k hk)⟩, ?_⟩, by omega⟩
  have : (cs.take o ++ List.replicate i (Value.int .i64 (v : Int)) ++ cs.drop (o + i)).set (o + (i : Int).toNat * 1) (Value.int .i64 (v : Int)) = cs.take o ++ List.replicate (i + 1) (Value.int .i64 (v : Int)) ++ cs.drop (o + (i + 1)) := by
   rw [List.set_append_right _ _ (by simp; omega)]
   have e : o + (i : Int).toNat * 1 - (cs.take o ++ List.replicate i (Value.int .i64 (v : Int))).length = 0 := by simp; omega
   rw [e, List.drop_eq_getElem_cons (by omega), List.set_cons_zero, List.replicate_succ']
   simp [List.append_assoc, Nat.add_assoc]
  rw [this] at hb2
  exact hb2
 ·simp only at hge
  have : i = n := by omega
  subst this
  exact hR h' ho hbi
theorem TrH.fill (h : TrH U p q st) {a n : Nat} {r : List Value} {σ' : Hp} {v : Nat} (hrow : Blk U q (ints st ++ r)) (hl : a + n <= st.length) (ho : Z5 U σ' q)
 (hb : Blk σ' q ((ints st ++ r).take a ++ List.replicate n (.int .i64 (v : Int)) ++ (ints st ++ r).drop (a + n))) : TrH σ' p q (setR st a (a + n) v) := by
 obtain ⟨c, h1, h2⟩ := h.hd
 have hlen := ZL st a (a + n) v
 refine ⟨⟨c, by rw [hlen]; exact h1, ?_⟩, ⟨r, ?_⟩, h.ne, by rw [hlen]; exact h.n1, by rw [hlen]; exact h.n2, by rw [hlen]; exact h.n3⟩
 ·rw [hlen]; exact Xc ho h2 h.ne
 ·rw [Wg4 (by omega) hl, QR, QR]
  have e1 : (ints st ++ r).take a = ints (st.take a) := by
   rw [List.take_append_of_le_length (by rw [ZN]; omega)]; simp [ints]
  have e2 : (ints st ++ r).drop (a + n) = ints (st.drop (a + n)) ++ r := by
   rw [List.drop_append_of_le_length (by rw [ZN]; omega)]; simp [ints]
  have e3 : ints (List.replicate (a + n - a) v) = List.replicate n (.int .i64 (v : Int)) := by
   rw [Nat.add_sub_cancel_left]; simp [ints]
  rw [e1, e2] at hb
  rw [e3]
  simpa [List.append_assoc] using hb
theorem TrH.fill_ok (h : TrH U p q st) {a n c : Nat} (hl : a + n <= st.length) (v : Nat) {R : Hp -> Prop} (hR : ∀ σ', Ext (· = q) U σ' -> TrH σ' p q (setR st a (a + n) v) -> R σ') :
 Zz.call ⟨some ⟨q, a, none⟩, n, c⟩ v U R := by
 obtain ⟨r, hrow⟩ := h.row
 have := h.n2
 exact Ar.fill_ok hrow (by simp [ZN]; omega) (by omega) v fun σ' ho hb => hR σ' ho.ext (h.fill hrow hl ho hb)
theorem K6 (h : TrH U p q st) {R : Bool -> Hp -> Prop} (hR : R true U) : WS.call (some ⟨p, 0, none⟩) U R := by
 refine WS.of_vc ?_
 unfold WS.vc
 refine JnB.intro (ifT rfl (nilP (h.rS fun cap _ => ?_)))
 have := h.n1
 rw [decide_eq_true (by simp only; omega)]
 exact hR
theorem WdD (h : TrH U p q st) {R : Int -> Hp -> Prop} (hR : R ((st.length / 16 : Nat) : Int) U) : XM.call (some ⟨p, 0, none⟩) U R := by
 refine XM.of_vc ?_
 unfold XM.vc
 have := h.n2
 refine nilP (h.rS fun cap _ => nz (by decide) ?_)
 refine arN (m := st.length / 16) ?_ (by omega) hR
 rw [ZJ (by omega)]; simp
theorem WcC (h : TrH U p q st) {k : Nat} (hk : 16 * k + 16 <= st.length) {R : Sl -> Hp -> Prop} (hR : ∀ c, R ⟨some ⟨q, 16 * k, none⟩, 16, c⟩ U) : Xo.call (some ⟨p, 0, none⟩) (k : Int) U R := by
 refine Xo.of_vc ?_
 unfold Xo.vc
 have := h.n2
 refine nilP (h.rS fun cap hc => ?_)
 refine arN (m := 16 * k) (by omega) (by omega) (arN (m := k + 1) (by omega) (by omega) (arN (m := 16 * k + 16) (by omega) (by omega) ?_))
 refine slc (by omega) (by simp only; omega) (by simp only; omega) ?_
 have e : 16 * k + 16 - 16 * k = 16 := by omega
 rw [if_neg (by simp only; omega), e]
 simp only [Option.map_some, add_lit, Nat.mul_one, Nat.zero_add]
 exact hR _
theorem WdI (h : TrH U p q st) (k : Int) {R : Sl -> Int -> Hp -> Prop} (h1 : ∀ (x : Nat) c, k = (x : Int) -> 16 * x + 16 <= st.length -> R ⟨some ⟨q, 16 * x, none⟩, 16, c⟩ 0 U) (h0 : Hz st.length k = false -> R ⟨none, 0, 0⟩ 1 U) :
 XR.call (some ⟨p, 0, none⟩) k U R := by
 refine XR.of_vc ?_
 unfold XR.vc
 have n3 := h.n3
 refine K6 h (ifF rfl (JnB.intro (ifD (fun hneg => ifT rfl (h0 ?_)) fun hneg => WdD h ?_)))
 ·simp [Hz]; omega
 ·refine ifD (fun hge => h0 ?_) fun hlt => ?_
  ·simp [Hz]; omega
  ·obtain ⟨x, rfl⟩ := Int.eq_ofNat_of_zero_le (show 0 <= k by omega)
   exact WcC h (by omega) fun c => h1 x c rfl (by omega)
theorem Vd {n x : Nat} (h : 16 * x + 16 <= n) : Hz n (x : Int) = true := by simp [Hz]; omega
theorem TrH.first (h : TrH U p q st) {x c : Nat} (hx : 16 * x + 16 <= st.length) {K : Int -> Prop} (hK : K ((st.getD (16 * x) 0 : Nat) : Int)) :
 Ix (some ⟨q, 16 * x, none⟩) 16 0 1 fun a => LdI .i64 a U K := by
 have hp := h.part (s := ⟨some ⟨q, 16 * x, none⟩, 16, c⟩) (n := 16) rfl rfl hx
 refine hp.ixN (i := 0) (x := st.getD (16 * x) 0) ?_ hK
 simp [List.getElem?_take, List.getElem?_drop, List.getD_eq_getElem?_getD]
 rw [gGe (by omega)]; simp
theorem TrH.cnt (h : TrH U p q st) {x c v : Nat} (hx : 16 * x + 16 <= st.length) {R : Int -> Hp -> Prop} (hR : R ((cntR st (16 * x) (16 * x + 16) v : Nat) : Int) U) : YZ.call ⟨some ⟨q, 16 * x, none⟩, 16, c⟩ v U R := by
 refine WfQ (h.part (n := 16) rfl rfl hx) (by simp; omega) v ?_
 have e : cntR st (16 * x) (16 * x + 16) v = ((st.drop (16 * x)).take 16).count v := by simp [cntR]
 rw [e] at hR; exact hR
theorem WhR (h : TrH U p q st) {x c : Nat} (hx : 16 * x + 16 <= st.length) {R : Bool -> Hp -> Prop} (hR : R (Wda st x) U) : Z2.call ⟨some ⟨q, 16 * x, none⟩, 16, c⟩ U R := by
 refine Z2.of_vc ?_
 unfold Z2.vc
 refine h.first (c := c) hx (JnB.intro ?_)
 unfold Wda at hR
 rw [Wh8]
 cases e1 : (st.getD (16 * x) 0 != 0)
 ·rw [e1] at hR; exact ifF rfl hR
 ·rw [e1] at hR
  refine ifT rfl (h.cnt (v := 1) hx ?_)
  rw [Wbj]; exact hR
theorem Wbv (h : TrH U p q st) {x c : Nat} (hx : 16 * x + 16 <= st.length) {R : Int -> Hp -> Prop} (hR : R ((QC st x : Nat) : Int) U) : ZG.call ⟨some ⟨q, 16 * x, none⟩, 16, c⟩ U R := by
 refine ZG.of_vc ?_
 unfold ZG.vc
 refine h.cnt (v := 1) hx (iff_ (fun he => ?_) fun he => h.cnt (v := 3) hx ?_)
 ·have e1 : cntR st (16 * x) (16 * x + 16) 1 = 0 := by simpa using he
  simpa [QC, e1] using hR
 ·have e1 : ¬ cntR st (16 * x) (16 * x + 16) 1 = 0 := by simpa using he
  refine ifD (fun hg => ?_) fun hg => ?_
  ·have e2 : 0 < cntR st (16 * x) (16 * x + 16) 3 := by omega
   simpa [QC, e1, e2] using hR
  ·have e2 : ¬ 0 < cntR st (16 * x) (16 * x + 16) 3 := by omega
   simpa [QC, e1, e2] using hR
theorem Whv (h : TrH U p q st) (k : Int) {R : Int -> Hp -> Prop} (hR : ∀ σ', Ext (· = q) U σ' -> TrH σ' p q (addT st k) -> R (addE st k) σ') : Ya.call (some ⟨p, 0, none⟩) k U R := by
 refine Ya.of_vc ?_
 unfold Ya.vc
 refine WdI h k (fun x c hk hx => ?_) fun hk => ?_
 ·subst hk
  have hok := Vd hx
  refine ifF rfl (h.first (c := c) hx (iff_ (fun he => ?_) fun he => ?_))
  ·have e1 : ¬ st.getD (16 * x) 0 = 0 := by simpa using he
   have : addE st (x : Int) = 5 := by simp only [addE, hok, iTn, if_true, if_neg e1]
   have e2 : addT st (x : Int) = st := by simp [addT, this]
   have := hR U (Ext.refl _ _)
   rw [e2] at this
   simpa [*] using this h
  ·have e1 : st.getD (16 * x) 0 = 0 := by simpa using he
   have e0 : addE st (x : Int) = 0 := by simp only [addE, hok, iTn, if_true, e1]
   have e2 : addT st (x : Int) = setR st (16 * x) (16 * x + 16) 3 := by simp [addT, e0]
   refine h.fill_ok hx 3 fun σ' e h' => ?_
   have := hR σ' e
   rw [e0, e2] at this
   exact this h'
 ·have e0 : addE st k = 1 := by simp [addE, hk]
  have e2 : addT st k = st := by simp [addT, e0]
  refine ifT rfl ?_
  have := hR U (Ext.refl _ _)
  rw [e0, e2] at this
  exact this h
end Go.Ar
namespace Go.Ar
open Go Go.Vc Go.Proofs
open Go.Bu (XA)


variable {U : Hp} {F : Rg} {p q : Nat} {st : List Nat}
theorem Wb8 {s : Sl} {xs : List Nat} (h : SlR s 1 (ints xs) U F) (hl : xs.length <= 1000000) (v : Nat) {R : Int -> Hp -> Prop} (h1 : ∀ i : Nat, xs[i]? = some v -> (∀ j : Nat, j < i -> xs[j]? ≠ some v) -> R (i : Int) U) (h0 : v ∉ xs -> R (-1) U) :
 WL.call s (v : Int) U R := by
 refine WL.of_vc ?_
 unfold WL.vc
 have hlen := h.lenN
 refine YX (a := .i .i64) (fun (t : Int) h' => ∃ i : Nat, t = (i : Int) /\ i <= xs.length /\ h' = U /\ ∀ j, j < i -> xs[j]? ≠ some v) (fun t _ => xs.length - t.toNat) ⟨0, rfl, by omega, rfl, fun j hj => by omega⟩ ?_
 rintro t h' ⟨i, rfl, hi, rfl, hno⟩
 refine ifD (fun hlt => ?_) fun hge => ?_
 ·have hi' : i < xs.length := by omega
  have hx : xs[i]? = some xs[i] := gGe hi'
  refine h.ixN hx ?_
  rw [beqN]
  refine iff_ (fun he => ?_) fun he => ?_
  ·have : v = xs[i] := by simpa using he
   exact h1 i (by rw [hx, this]) hno
  ·have he' : ¬ v = xs[i] := by simpa using he
   refine arN (m := i + 1) (by omega) (by omega) ⟨⟨i + 1, rfl, by omega, rfl, fun j hj => ?_⟩, by omega⟩
   by_cases e : j = i
   ·subst e; rw [hx]; intro e2; cases e2; exact he' rfl
   ·exact hno j (by omega)
 ·refine h0 fun hm => ?_
  obtain ⟨j, hj⟩ := List.getElem?_of_mem hm
  have := (gSi.1 hj).1
  exact hno j (by omega) hj
theorem Wa2 {s : Sl} {xs : List Nat} (h : SlR s 1 (ints xs) U F) (hl : xs.length <= 1000000) (v : Nat) {R : Bool -> Hp -> Prop} (hR : R (xs.contains v) U) : Wn.call s (v : Int) U R := by
 refine Wn.of_vc ?_
 unfold Wn.vc
 refine Wb8 h hl v (fun i hi _ => ?_) fun hn => ?_
 ·have : xs.contains v = true := by simpa using List.mem_of_getElem? hi
  rw [this] at hR
  rw [decide_eq_true (by omega)]; exact hR
 ·have : xs.contains v = false := by simpa using hn
  rw [this] at hR
  exact hR
theorem Wad {s : Sl} {xs : List Int} (h : SlR s 1 (xs.map (Value.int .i64)) U F) (hl : xs.length <= 1000000000) (v : Int) {R : Bool -> Hp -> Prop} (hR : R (xs.contains v) U) : Wn.call s v U R := by
 refine Wn.of_vc ?_
 unfold Wn.vc
 refine WL.of_vc ?_
 unfold WL.vc
 have hlen : s.len = xs.length := by have := h.1; simp at this; omega
 refine YX (a := .i .i64) (fun (t : Int) h' => ∃ i : Nat, t = (i : Int) /\ i <= xs.length /\ h' = U /\ ∀ j, j < i -> xs[j]? ≠ some v) (fun t _ => xs.length - t.toNat) ⟨0, rfl, by omega, rfl, fun j hj => by omega⟩ ?_
 rintro t h' ⟨i, rfl, hi, rfl, hno⟩
 refine ifD (fun hlt => ?_) fun hge => ?_
 ·have hi' : i < xs.length := by omega
  have hx : xs[i]? = some xs[i] := gGe hi'
  refine h.ixI hx (iff_ (fun he => ?_) fun he => ?_)
  ·have e : v = xs[i] := by simpa using he
   have : xs.contains v = true := by rw [e]; simp
   rw [this] at hR
   show R (decide ((i : Int) ≥ 0)) _
   rw [decide_eq_true (by omega)]; exact hR
  ·have he' : ¬ v = xs[i] := by simpa using he
   refine arN (m := i + 1) (by omega) (by omega) ⟨⟨i + 1, rfl, by omega, rfl, fun j hj => ?_⟩, by omega⟩
   by_cases e : j = i
   ·subst e; rw [hx]; intro e2; cases e2; exact he' rfl
   ·exact hno j (by omega)
 ·have : xs.contains v = false := by
   simp only [List.contains_eq_mem, decide_eq_false_iff_not]
   intro hm
   obtain ⟨j, hj⟩ := List.getElem?_of_mem hm
   have := (gSi.1 hj).1
   exact hno j (by omega) hj
  rw [this] at hR
  exact hR
def WiV (f : Fv) (p : Nat -> Bool) (U : Hp) : Prop := ∀ (x : Nat) (σ' : Hp) (R : Bool -> Hp -> Prop), Ext0 U σ' -> (∀ σ'', Ext0 σ' σ'' -> R (p x) σ'') -> Vv Tryz.prog f [.int .i64 (x : Int)] [.one .b] σ' R
theorem Hq {s : Sl} {xs : List Nat} (h : SlR s 1 (ints xs) U F) (hl : xs.length <= 1000000) {f : Fv} {pr : Nat -> Bool} (hf : WiV f pr U) {R : Bool -> Hp -> Prop} (hR : ∀ σ', Ext0 U σ' -> R (xs.any pr) σ') :
 Wx.call s f U R := by
 refine Wx.of_vc ?_
 unfold Wx.vc
 refine W5.of_vc ?_
 unfold W5.vc
 have hlen := h.lenN
 refine YX (a := .i .i64) (fun (t : Int) h' => ∃ i : Nat, t = (i : Int) /\ i <= xs.length /\ Ext0 U h' /\ ∀ j x, j < i -> xs[j]? = some x -> pr x = false) (fun t _ => xs.length - t.toNat) ⟨0, rfl, by omega, Ext.refl _ _, fun j x hj => by omega⟩ ?_
 rintro t h' ⟨i, rfl, hi, e, hno⟩
 refine ifD (fun hlt => ?_) fun hge => ?_
 ·have hi' : i < xs.length := by omega
  have hx : xs[i]? = some xs[i] := gGe hi'
  refine ((SlR.loc _ _ _).keep0 h e).ixN hx (hf _ _ _ e fun h2 e2 => ?_)
  cases hp : pr xs[i]
  ·refine ifF rfl (arN (m := i + 1) (by omega) (by omega) ⟨⟨i + 1, rfl, by omega, e.trans e2, fun j x hj hx' => ?_⟩, by omega⟩)
   by_cases e3 : j = i
   ·subst e3; rw [hx] at hx'; cases hx'; exact hp
   ·exact hno j x (by omega) hx'
  ·refine ifT rfl ?_
   have : xs.any pr = true := List.any_eq_true.2 ⟨_, List.getElem_mem hi', hp⟩
   show R (decide ((i : Int) ≥ 0)) _
   rw [decide_eq_true (by omega), ← this]
   exact hR _ (e.trans e2)
 ·have : xs.any pr = false := by
   rw [List.any_eq_false]
   intro x hx
   obtain ⟨j, hj⟩ := List.getElem?_of_mem hx
   have := (gSi.1 hj).1
   simp [hno j x (by omega) hj]
  show R (decide ((-1 : Int) ≥ 0)) _
  rw [show decide ((-1 : Int) ≥ 0) = false from rfl, ← this]
  exact hR _ e
theorem WcV (h : TrH U p q st) (k : Int) {R : Int -> Hp -> Prop} (hR : ∀ σ', Ext (· = q) U σ' -> TrH σ' p q (remT st k) -> R (remE st k) σ') : Xn.call (some ⟨p, 0, none⟩) k U R := by
 refine Xn.of_vc ?_
 unfold Xn.vc
 refine WdI h k (fun x c hk hx => ?_) fun hk => ?_
 ·subst hk
  have hok := Vd hx
  refine ifF rfl (WhR h hx ?_)
  cases hi : Wda st x
  ·have e0 : remE st (x : Int) = 5 := by simp [remE, hok, hi]
   have e2 : remT st (x : Int) = st := by simp [remT, e0]
   have := hR U (Ext.refl _ _)
   rw [e0, e2] at this
   exact ifT rfl (this h)
  ·have e0 : remE st (x : Int) = 0 := by simp [remE, hok, hi]
   have e2 : remT st (x : Int) = setR st (16 * x) (16 * x + 16) 0 := by simp [remT, e0]
   refine ifF rfl (h.fill_ok hx 0 fun σ' e h' => ?_)
   have := hR σ' e
   rw [e0, e2] at this
   exact this h'
 ·have e0 : remE st k = 1 := by simp [remE, hk]
  have e2 : remT st k = st := by simp [remT, e0]
  refine ifT rfl ?_
  have := hR U (Ext.refl _ _)
  rw [e0, e2] at this
  exact this h
theorem WfX {c : Nat} {s : Sl} {fr : List Nat} {σ0 : Hp} (hb : Blk σ0 c [.slice s.a s.len s.cap]) (hs : SlR s 1 (ints fr) σ0 F) (hl : fr.length <= 1000) : WiV ⟨218, #[], #[.pointer (some ⟨c, 0, none⟩)]⟩ (fun x => !fr.contains x) σ0 := by
 intro x σ' R e hR
 refine WaO (all := #[.int .i64 (x : Int), .pointer (some ⟨c, 0, none⟩)]) (by kernel_rfl) (by simp) ?_
 refine Yr.of_vc ?_
 unfold Yr.vc
 refine (e.blk hb id).rS0 rfl ?_
 exact Wa2 ((SlR.loc _ _ _).keep0 hs e) (by omega) x (hR _ (Ext.refl _ _))
theorem Wbi (h : TrH U p q st) (a m : Int) (v : Nat) {s : Sl} {fr : List Nat} (hs : SlR s 1 (ints fr) U F) (hl : fr.length <= 1000) {R : Int -> Hp -> Prop} (hR : ∀ σ', Ext (· = q) U σ' -> TrH σ' p q (Kb st a m v fr) -> R (Uy st a m fr) σ') :
 Xr.call (some ⟨p, 0, none⟩) a m v s U R := by
 refine Xr.of_vc ?_
 unfold Xr.vc
 have n2 := h.n2
 have hq := h.lt.2
 refine nw (cs := [.slice s.a s.len s.cap]) fun v1 hz e0 hb => ?_
 have h1 := h.keep0 e0
 have bad : ¬ (0 <= a /\ 1 <= m /\ m <= st.length - a) -> R 1 v1 := fun hn => by
  have hok : XA st.length a m = false := by simp only [XA, ← Bool.decide_and]; exact decide_eq_false hn
  have e1 : Uy st a m fr = 1 := by simp [Uy, hok]
  have e2 : Kb st a m v fr = st := by simp [Kb, e1]
  have := hR v1 e0.to
  rw [e1, e2] at this
  exact this h1
 refine K6 h1 (ifF rfl (JnB.intro ?_))
 refine ifD (fun c1 => JnB.intro (ifT rfl (JnB.intro (ifT rfl (ifT rfl (bad (by omega))))))) fun c1 => ?_
 refine JnB.intro (ifD (fun c2 => JnB.intro (ifT rfl (ifT rfl (bad (by omega))))) fun c2 => ?_)
 refine nilP (h1.rS fun cap hc => JnB.intro (ifD (fun c3 => ifT rfl (bad (by simp only at *; omega))) fun c3 => ?_))
 simp only at c3
 refine nilP (h1.rS fun cap hc => ar (by simp only; omega) (by simp only; omega) (ifD (fun c4 => bad (by simp only at *; omega)) fun c4 => ?_))
 simp only at c4
 obtain ⟨x, rfl⟩ := Int.eq_ofNat_of_zero_le (show 0 <= a by omega)
 obtain ⟨y, rfl⟩ := Int.eq_ofNat_of_zero_le (show 0 <= m by omega)
 have hxy : x + y <= st.length := by omega
 have hok : XA st.length (x : Int) (y : Int) = true := by simp only [XA, Bool.and_eq_true, decide_eq_true_eq]; omega
 refine nilP (h1.rS fun cap hc => arN (m := x + y) (by omega) (by omega) (slc (by omega) (by simp only; omega) (by simp only; omega) ?_))
 rw [if_neg (by simp only; omega)]
 simp only [Option.map_some, add_lit, Nat.mul_one, Nat.zero_add]
 have ey : x + y - x = y := by omega
 rw [ey]
 have hp := h1.part (s := ⟨some ⟨q, x, none⟩, y, cap - x⟩) (n := y) rfl rfl hxy
 refine Hq hp (by simp; omega) (WfX (s := s) hb ((SlR.loc _ _ _).keep0 hs e0) hl) fun v2 e2 => ?_
 have h2 := h1.keep0 e2
 have hall : ((st.drop x).take y).any (fun z => !fr.contains z) = !WcR st x y fr := by
  rw [WcR, List.all_eq_not_any_not, Bool.not_not]
 rw [hall]
 cases hA : WcR st x y fr
 ·have e1 : Uy st (x : Int) (y : Int) fr = 5 := by simp [Uy, hok, hA]
  have e3 : Kb st (x : Int) (y : Int) v fr = st := by simp [Kb, e1]
  have := hR v2 (e0.to.trans e2.to)
  rw [e1, e3] at this
  exact ifT rfl (this h2)
 ·have e1 : Uy st (x : Int) (y : Int) fr = 0 := by simp [Uy, hok, hA]
  have e3 : Kb st (x : Int) (y : Int) v fr = setR st x (x + y) v := by simp [Kb, e1]
  refine ifF rfl (h2.fill_ok hxy v fun v3 e4 h3 => ?_)
  have := hR v3 (e0.to.trans (e2.to.trans e4))
  rw [e1, e3] at this
  exact this h3
theorem Hv {h : Hp} {b : Nat} {xs : List Nat} {n c : Nat} (hb : Blk h b (ints xs)) (hn : n = xs.length) : SlR ⟨some ⟨b, 0, none⟩, n, c⟩ 1 (ints xs) h (· = b) :=
 hb.slR (o := 0) rfl (by rw [ZN]; simp [hn]) fun j _ => by rw [Nat.zero_add]
theorem WiH (h : TrH U p q st) (a m : Int) {R : Int -> Hp -> Prop} (hR : ∀ σ', Ext (· = q) U σ' -> TrH σ' p q (Kb st a m 1 [2, 3]) -> R (Uy st a m [2, 3]) σ') : XL.call (some ⟨p, 0, none⟩) a m U R := by
 refine XL.of_vc ?_
 unfold XL.vc
 refine nw (cs := ints [2, 3]) fun v hz e hb => ?_
 exact Wbi (h.keep0 e) a m 1 (Hv hb rfl) (by simp) fun σ' e' h' => hR σ' (e.to.trans e') h'
theorem WfU (h : TrH U p q st) (a m : Int) {R : Int -> Hp -> Prop} (hR : ∀ σ', Ext (· = q) U σ' -> TrH σ' p q (Kb st a m 2 [1]) -> R (Uy st a m [1]) σ') : Xz.call (some ⟨p, 0, none⟩) a m U R := by
 refine Xz.of_vc ?_
 unfold Xz.vc
 refine nw (cs := ints [1]) fun v hz e hb => ?_
 exact Wbi (h.keep0 e) a m 2 (Hv hb rfl) (by simp) fun σ' e' h' => hR σ' (e.to.trans e') h'
theorem Wa7 (h : TrH U p q st) (a m : Int) {R : Int -> Hp -> Prop} (hR : ∀ σ', Ext (· = q) U σ' -> TrH σ' p q (Kb st a m 3 [2]) -> R (Uy st a m [2]) σ') : Xb.call (some ⟨p, 0, none⟩) a m U R := by
 refine Xb.of_vc ?_
 unfold Xb.vc
 refine nw (cs := ints [2]) fun v hz e hb => ?_
 exact Wbi (h.keep0 e) a m 3 (Hv hb rfl) (by simp) fun σ' e' h' => hR σ' (e.to.trans e') h'
def stI (st : List Nat) (x : Int) : Int := if 0 <= x /\ x < st.length then ((st.getD x.toNat 0 : Nat) : Int) else -1
theorem WdW (h : TrH U p q st) (x : Int) {R : Int -> Hp -> Prop} (hR : R (stI st x) U) : XX.call (some ⟨p, 0, none⟩) x U R := by
 refine XX.of_vc ?_
 unfold XX.vc
 have n2 := h.n2
 unfold stI at hR
 refine K6 h (JnB.intro (ifF rfl (JnB.intro (ifD (fun c1 => ifT rfl ?_) fun c1 => nilP (h.rS fun cap hc => ifD (fun c2 => ?_) fun c2 => ?_)))))
 ·rw [if_neg (by omega)] at hR; exact hR
 ·simp only at c2
  rw [if_neg (by omega)] at hR; exact hR
 ·simp only at c2
  rw [if_pos (by omega)] at hR
  obtain ⟨y, rfl⟩ := Int.eq_ofNat_of_zero_le (show 0 <= x by omega)
  refine nilP (h.rS fun cap hc => ?_)
  have hp := h.part (s := ⟨some ⟨q, 0, none⟩, st.length, cap⟩) (a := 0) (n := st.length) rfl rfl (by omega)
  rw [List.drop_zero, List.take_length] at hp
  have hy : y < st.length := by omega
  refine hp.ixN (gGe hy) ?_
  simpa [List.getD_eq_getElem?_getD, gGe hy] using hR
end Go.Ar
namespace Go.Ar
open Go Go.Vc Go.Proofs
open Go.Bu (XA)


variable {U : Hp} {F : Rg} {p q : Nat} {st : List Nat}
theorem K4 {s : Sl} {vs : List Value} (h : SlR s 1 vs U F) (h1 : ∀ v ∈ vs, one1 v = true) (hl : s.len <= 1000000) {R : Sl -> Hp -> Prop}
 (hR : ∀ s' σ', s'.len = s.len -> Ext0 U σ' -> RowR s' 1 vs σ' (fun b => U.size <= b) -> R s' σ') : Wu.call s U R := by
 refine Wu.of_vc ?_
 unfold Wu.vc
 exact GU h (by decide) rfl h1 (by decide) hl hR
theorem Ue (n : Nat) (P : Nat -> Bool) : (List.range (n + 1)).filter P = (List.range n).filter P ++ (if P n then [n] else []) := by
 rw [List.range_succ, List.filter_append]
 congr 1
 cases h : P n <;> simp [h]
theorem Wf7 (h : TrH U p q st) (k : Nat) {R : Sl -> Hp -> Prop} (hR : ∀ s σ', Ext0 U σ' -> RowR s 1 (ints (Z9 st k)) σ' (fun b => U.size <= b) -> R s σ') : X0.call (some ⟨p, 0, none⟩) (k : Int) U R := by
 refine X0.of_vc ?_
 unfold X0.vc
 have n2 := h.n2
 refine K6 h (ifF rfl (WdD h ?_))
 refine KA (a := .s) (bb := .i .i64) (fun (out : Sl) (t : Int) h' => ∃ i : Nat, t = (i : Int) /\ i <= st.length / 16 /\ Ext0 U h' /\ RowR out 1 (ints ((List.range i).filter fun h => st.getD (16 * h) 0 != 0 && QC st h == k)) h' (fun b => U.size <= b))
  (fun _ t _ => st.length / 16 - t.toNat) ⟨0, rfl, by omega, Ext.refl _ _, RowR.nil _ _ _ _⟩ ?_
 rintro out t h' ⟨i, rfl, hi, e, hrow⟩
 have hT := h.keep0 e
 refine ifD (fun hlt => ?_) fun hge => ?_
 ·have hx : 16 * i + 16 <= st.length := by omega
  refine WcC hT hx fun c => hT.first (c := c) hx (JnB.intro ?_)
  have hlen := hrow.lenN
  have hle : ((List.range i).filter fun h => st.getD (16 * h) 0 != 0 && QC st h == k).length <= i := Nat.le_trans (List.length_filter_le _ _) (by simp)
  have next : ∀ (r : Bool), r = (st.getD (16 * i) 0 != 0 && QC st i == k) -> If r
   (Nw (.cells #[.int .i64 (i : Int)] 3 (0, 0)) h' fun n31 v5 => App out 1 8 3 [.int .i64 0] ⟨(some n31), 1, 1⟩ v5 fun out1 v6 => Ar .i64 ((i : Int) + 1) fun t33 =>
    (∃ j : Nat, t33 = (j : Int) /\ j <= st.length / 16 /\ Ext0 U v6 /\ RowR out1 1 (ints ((List.range j).filter fun h => st.getD (16 * h) 0 != 0 && QC st h == k)) v6 (fun b => U.size <= b)) /\ st.length / 16 - t33.toNat < st.length / 16 - (i : Int).toNat)
   (Ar .i64 ((i : Int) + 1) fun t33 => (∃ j : Nat, t33 = (j : Int) /\ j <= st.length / 16 /\ Ext0 U h' /\ RowR out 1 (ints ((List.range j).filter fun h => st.getD (16 * h) 0 != 0 && QC st h == k)) h' (fun b => U.size <= b)) /\ st.length / 16 - t33.toNat < st.length / 16 - (i : Int).toNat) := by
   intro r hr
   have hf := Ue i fun h => st.getD (16 * h) 0 != 0 && QC st h == k
   rw [← hr] at hf
   cases r
   ·refine ifF rfl (arN (m := i + 1) (by omega) (by omega) ⟨⟨i + 1, rfl, by omega, e, ?_⟩, by omega⟩)
    rw [hf]; simpa using hrow
   ·refine ifT rfl (hrow.push (vs := [.int .i64 (i : Int)]) (fun b hb => Nat.le_trans e.1 hb) rfl rfl (by simp [one1]) (by omega) (by omega) fun s' v6 hl' e' ho' => ?_)
    refine arN (m := i + 1) (by omega) (by omega) ⟨⟨i + 1, rfl, by omega, Ext.fresh e e' fun _ h => h, ?_⟩, by omega⟩
    rw [hf, QR]; exact ho'
  rw [Wh8]
  cases e1 : (st.getD (16 * i) 0 != 0)
  ·exact ifF rfl (next false (by rw [e1]; rfl))
  ·refine ifT rfl (Wbv hT hx ?_)
   rw [beqN]
   exact next _ (by rw [e1]; rfl)
 ·have : i = st.length / 16 := by omega
  subst this
  exact hR _ _ e hrow
theorem WgH (h : TrH U p q st) {R : Sl -> Hp -> Prop} (hR : ∀ s σ', Ext0 U σ' -> RowR s 1 (ints (Z9 st 0)) σ' (fun b => U.size <= b) -> R s σ') : Yq.call (some ⟨p, 0, none⟩) U R := by
 refine Yq.of_vc ?_
 unfold Yq.vc
 exact Wf7 h 0 hR
theorem Wh4 {n : Nat} (h1 : 16 <= n) (h2 : n <= 1024) (h3 : n % 16 = 0) {R : Option Addr -> Int -> Hp -> Prop} (hR : ∀ σ' p q, Ext0 U σ' -> U.size <= p -> U.size <= q -> TrH σ' p q (List.replicate n 0) -> R (some ⟨p, 0, none⟩) 0 σ') : Qw.call (n : Int) U R := by
 refine Qw.of_vc ?_
 unfold Qw.vc
 refine JnB.intro (ifDF (by omega) (JnB.intro (ifDF (by omega) (nz (by decide) ?_))))
 rw [ZK (by omega)]
 have : (((n : Int) % 16) != 0) = false := by
  have : ((n : Int) % 16) = 0 := by omega
  rw [this]; rfl
 rw [this]
 refine ifF rfl (mk (by omega) (by omega) fun v hz e hb => nw (cs := [.slice (some ⟨U.size, 0, none⟩) n n]) fun v2 hz2 e2 hb2 => ?_)
 have hf : (List.replicate n [Value.int .i64 0]).flatten = ints (List.replicate n 0) := by
  have : [Value.int .i64 0] = ints [0] := rfl
  rw [this]
  clear hb hR
  induction n with
  | zero => rfl
  | succ n ih => simp [List.replicate_succ, ints]
 rw [hf] at hb
 refine hR _ _ _ (e.trans e2) (by omega) (Nat.le_refl _) ⟨⟨n, by simp, by simpa using hb2⟩, ⟨[], by simpa using e2.blk hb id⟩, by omega, by simpa using h1, by simpa using h2, by simpa using h3⟩
theorem VO (h : TrH U p q st) {R : Option Addr -> Hp -> Prop} (hR : ∀ σ' p' q', Ext0 U σ' -> U.size <= p' -> U.size <= q' -> TrH σ' p' q' st -> R (some ⟨p', 0, none⟩) σ') : W7.call (some ⟨p, 0, none⟩) U R := by
 refine W7.of_vc ?_
 unfold W7.vc
 have n1 := h.n1
 have n2 := h.n2
 refine K6 h (ifF rfl (nilP (h.rS fun cap hc => ?_)))
 have hp := h.part (s := ⟨some ⟨q, 0, none⟩, st.length, cap⟩) (a := 0) (n := st.length) rfl rfl (by omega)
 rw [List.drop_zero, List.take_length] at hp
 refine K4 hp G7 (by simp only; omega) fun s' v1 hl e hrow => nw (cs := [.slice s'.a s'.len s'.cap]) fun v2 hz2 e2 hb2 => ?_
 rcases hrow.2 with ⟨h0, _⟩ | ⟨b, cs, hq, ha, hb, hle, hcl, ht⟩
 ·simp only at hl; omega
 ·have hbl := hb.lt
  refine hR _ _ b (e.trans e2) e.1 hq ⟨⟨s'.cap, ?_, ?_⟩, ⟨cs.drop (ints st).length, ?_⟩, by omega, h.n1, h.n2, h.n3⟩
  ·simp only at hl; omega
  ·rw [ha] at hb2; simp only at hl; rw [hl] at hb2; exact hb2
  ·have : ints st ++ cs.drop (ints st).length = cs := by
    conv => lhs; lhs; rw [← ht]
    exact List.take_append_drop _ _
   rw [this]
   exact e2.blk hb id
end Go.Ar
namespace Go.Proofs
open Go.Vc

set_option maxRecDepth 100000
def YU.hint : Hn := .q (.o 1) (.q (.q (.o 3) (.c (.q (.o 2) (.l)) (.l))) (.q (.reg (.tail 10 [.op, .op, .op, .op, .op, .op, .op, .op, .op, .op] [.op])) (.l)))
def YU.vc (s : Option Addr) (U : Hp) (R : Int -> Int -> Hp -> Prop) : Prop :=
 Nw (.cells #[.int .i64 0, .int .i64 0] 123 (0, 0)) U fun n2 v =>
 XY.call s v fun t4 v1 =>
 If (!t4) (St1 (n2.add 0) (.int .i64 0) v1 fun v2 =>
 St1 (n2.add 1) (.int .i64 0) v2 fun v3 =>
 LdI .i64 (n2.add 0) v3 fun res =>
 LdI .i64 (n2.add 1) v3 fun res1 =>
 R res res1 v3)
 (NilP s fun a8 =>
 LdI .i64 (a8.add 0) v1 fun t10 =>
 NilP s fun a12 =>
 LdI .i64 ((a12.add 1).add 1) v1 fun t15 =>
 St1 (n2.add 0) (.int .i64 t10) v1 fun v4 =>
 St1 (n2.add 1) (.int .i64 t15) v4 fun v5 =>
 LdI .i64 (n2.add 0) v5 fun res2 =>
 LdI .i64 (n2.add 1) v5 fun res3 =>
 R res2 res3 v5)
theorem YU.of_vc {s U R} (hv : YU.vc s U R) : YU.call s U R :=
 Wa Tryz.func136 (x := YU.hint) (Eq.mpr (by kernel_rfl) hv)
def XU.hint : Hn := .q (.o 1) (.q (.q (.o 3) (.c (.q (.o 1) (.l)) (.l))) (.q (.o 6) (.l)))
def XU.vc (s : Option Addr) (U : Hp) (R : Int -> Hp -> Prop) : Prop :=
 XY.call s U fun t4 v =>
 If (!t4) (R 0 v)
 (NilP s fun a7 =>
 LdS (a7.add 4) v fun t9 =>
 R ((t9.len : Nat) : Int) v)
theorem XU.of_vc {s U R} (hv : XU.vc s U R) : XU.call s U R :=
 Wa Tryz.func139 (x := XU.hint) (Eq.mpr (by kernel_rfl) hv)
def Ym.hint : Hn := .q (.o 2) (.q (.o 8) (.q (.q (.o 2) (.c (.q (.o 3) (.l)) (.l))) (.q (.o 10) (.l))))
def Ym.vc (s : Option Addr) (addr : Int) (U : Hp) (R : Bool -> Int -> Hp -> Prop) : Prop :=
 X7.call s addr U fun t11 t111 v =>
 If (t111 != 0) (R false t111 v)
 (NilP s fun a18 =>
 LdS (a18.add 4) v fun t20 =>
 Ix t20.a t20.len t11 1 fun a22 =>
 LdI .i64 a22 v fun t23 =>
 R (t23 == 1) 0 v)
theorem Ym.of_vc {s addr U R} (hv : Ym.vc s addr U R) : Ym.call s addr U R :=
 Wa Tryz.func142 (x := Ym.hint) (Eq.mpr (by kernel_rfl) hv)
def X4.hint : Hn := .q (.o 2) (.q (.q (.o 3) (.c (.q (.o 2) (.l)) (.l))) (.q (.o 5) (.q (.q (.reg (.heldJ false [] [(32, .one .b)] (.take 0 (.take 1 (.all [(2, .take 3 (.take 4 (.split 18 (.take 5 (.take 6 (.take 7 (.take 8 (.take 9 (.take 10 (.take 11 (.take 12 (.take 13 (.take 14 (.take 15 (.take 16 (.take 17 (.take 18 (.done))))))))))))))) (.take 5 (.take 6 (.take 7 (.take 8 (.take 11 (.take 12 (.take 13 (.take 14 (.all [(9, .take 10 (.all [(15, .take 16 (.take 17 (.take 18 (.done))))])), (15, .all [(9, .take 10 (.take 16 (.take 17 (.take 18 (.done)))))])]))))))))))))]))))) (.c (.q (.o 2) (.l)) (.l))) (.q (.o 9) (.l)))))
def X4.vc (s : Option Addr) (addr : Int) (U : Hp) (R : Int -> Int -> Hp -> Prop) : Prop :=
 XY.call s U fun t8 v =>
 If (!t8) (R 0 5 v)
 (Yi.call s 0 v fun t12 v1 =>
 Ar .i64 (addr - t12) fun vat =>
 Jn [.b] (fun (t32 : Bool) v2 =>
 If t32 (R 0 8 v2)
 (NilP s fun a35 =>
 LdI .i64 ((a35.add 1).add 0) v2 fun t38 =>
 Nz t38 <| Ar .i64 (vat.tdiv t38) fun t39 =>
 R t39 0 v2)) fun J =>
 Yi.call s 0 v1 fun t16 v3 =>
 If (decide (addr < t16)) (J true v3)
 (NilP s fun a21 =>
 NilP s fun a26 =>
 (LdS (a21.add 4) v3 fun t23 =>
 LdI .i64 ((a26.add 1).add 0) v3 fun t29 =>
 Ar .i64 (((t23.len : Nat) : Int) * t29) fun t30 =>
 J (decide (vat ≥ t30)) v3) ∧
 (LdI .i64 ((a26.add 1).add 0) v3 fun t291 =>
 LdS (a21.add 4) v3 fun t231 =>
 Ar .i64 (((t231.len : Nat) : Int) * t291) fun t301 =>
 J (decide (vat ≥ t301)) v3)))
theorem X4.of_vc {s addr U R} (hv : X4.vc s addr U R) : X4.call s addr U R :=
 Wa Tryz.func165 (x := X4.hint) (Eq.mpr (by kernel_rfl) hv)
def YQ.hint : Hn := .q (.o 1) (.q (.q (.o 3) (.c (.q (.o 1) (.l)) (.l))) (.q (.o 5) (.q (.o 7) (.q (.o 1) (.l)))))
def YQ.vc (s : Option Addr) (U : Hp) (R : Option Addr -> Hp -> Prop) : Prop :=
 XY.call s U fun t5 v =>
 If (!t5) (R none v)
 (NilP s fun a8 =>
 LdI .i64 (a8.add 0) v fun t9 =>
 LdI .i64 (a8.add 1) v fun t91 =>
 LdI .i64 (a8.add 2) v fun t92 =>
 LdI .i64 (a8.add 3) v fun t93 =>
 LdS (a8.add 4) v fun t94 =>
 LdI .i64 (a8.add 5) v fun t95 =>
 Nw (.cells #[.int .i64 0, .int .i64 0, .int .i64 0, .int .i64 0, .slice none 0 0, .int .i64 0] 229 (0, 0)) v fun n3 v1 =>
 St1 (n3.add 0) (.int .i64 t9) v1 fun v2 =>
 St1 (n3.add 1) (.int .i64 t91) v2 fun v3 =>
 St1 (n3.add 2) (.int .i64 t92) v3 fun v4 =>
 St1 (n3.add 3) (.int .i64 t93) v4 fun v5 =>
 St1 (n3.add 4) (.slice t94.a t94.len t94.cap) v5 fun v6 =>
 St1 (n3.add 5) (.int .i64 t95) v6 fun v7 =>
 NilP s fun a11 =>
 LdS (a11.add 4) v7 fun t13 =>
 Wu.call t13 v7 fun t14 v8 =>
 St1 (n3.add 4) (.slice t14.a t14.len t14.cap) v8 fun v9 =>
 R (some n3) v9)
theorem YQ.of_vc {s U R} (hv : YQ.vc s U R) : YQ.call s U R :=
 Wa Tryz.func196 (x := YQ.hint) (Eq.mpr (by kernel_rfl) hv)
def Qv.hint : Hn := .q (.o 3) (.q (.o 7) (.q (.q (.reg (.seq [.op, .op, .op, .grd false 2 [.op, .op], .op, .grd false 5 [.op, .op, .op, .op, .op]])) (.c (.q (.o 2) (.l)) (.l))) (.q (.reg (.held true [] (.take 0 (.take 1 (.take 2 (.all [(3, .take 4 (.all [(5, .take 6 (.take 7 (.done)))]))])))))) (.l))))
def Qv.vc (start : Int) (vclass : Int) (vclass1 : Int) (vclass2 : Int) (U : Hp) (R : Option Addr -> Int -> Hp -> Prop) : Prop :=
 Nw (.cells #[.int .i64 vclass, .int .i64 vclass1, .int .i64 vclass2] 51 (0, 0)) U fun n3 v =>
 LdI .i64 (n3.add 0) v fun t9 =>
 LdI .i64 (n3.add 1) v fun t91 =>
 LdI .i64 (n3.add 2) v fun t92 =>
 YW.call t9 t91 t92 v fun t10 t101 v1 =>
 JnB (fun r v2 =>
 JnB (fun r1 v3 =>
 If r1 (R none 1 v3)
 (Held v3 fun S =>
 LdH S (.i .i64) (n3.add 0) fun (t27 : Int) =>
 LdH S (.i .i64) (n3.add 1) fun (t271 : Int) =>
 LdH S (.i .i64) (n3.add 2) fun (t272 : Int) =>
 Mk t10 t10 8 3 [.int .i64 0] v3 fun t29 v4 =>
 And (S v4) <|
 Nw (.cells #[.int .i64 start, .int .i64 t27, .int .i64 t271, .int .i64 t272, .slice t29.a t29.len t29.cap, .int .i64 0] 229 (0, 0)) v4 fun n31 v5 =>
 And (S v5) <|
 R (some n31) 0 v5)) fun J1 =>
 If r (J1 true v2)
 (LdI .i64 (n3.add 1) v2 fun t22 =>
 Ar .i64 (1024 - t22) fun t23 =>
 J1 (decide (start > t23)) v2)) fun J =>
 If (t101 != 0) (J true v1)
 (J (decide (start < 0)) v1)
theorem Qv.of_vc {start vclass vclass1 vclass2 U R} (hv : Qv.vc start vclass vclass1 vclass2 U R) : Qv.call start vclass vclass1 vclass2 U R :=
 Wa Tryz.func203 (x := Qv.hint) (Eq.mpr (by kernel_rfl) hv)
def YS.hint : Hn := .q (.o 1) (.q (.o 8) (.q (.k (.q (.o 3) (.c (.q (.o 2) (.l)) (.q (.o 9) (.c (.q (.o 1) (.l)) (.l)))))) (.q (.o 4) (.q (.o 1) (.l)))))
def YS.vc (s : Option Addr) (addr : Int) (U : Hp) (R : Int -> Hp -> Prop) : Prop :=
 X7.call s addr U fun t10 t101 v =>
 If (t101 != 0) (R t101 v)
 (NilP s fun a19 =>
 LdS (a19.add 4) v fun t21 =>
 Ix t21.a t21.len t10 1 fun a23 =>
 LdI .i64 a23 v fun t24 =>
 If (t24 == 0) (R 9 v)
 (Nw (.cells #[.int .i64 t10] 3 (0, 0)) v fun n28 v1 =>
 YJ.call s 0 ⟨(some n28), 1, 1⟩ v1 fun v2 =>
 R 0 v2))
theorem YS.of_vc {s addr U R} (hv : YS.vc s addr U R) : YS.call s addr U R :=
 Wa Tryz.func209 (x := YS.hint) (Eq.mpr (by kernel_rfl) hv)
def XY.hint : Hn := .q (.o 1) (.q (.reg (.seq [.op, .op, .op, .grd true 6 [.op, .op, .op, .op, .op, .op], .op])) (.l))
def XY.vc (s : Option Addr) (U : Hp) (R : Bool -> Hp -> Prop) : Prop :=
 JnB (fun r v =>
 R r v) fun J =>
 If (!s.isNone) (NilP s fun a7 =>
 LdS (a7.add 4) U fun t9 =>
 J (decide (((t9.len : Nat) : Int) > 0)) U)
 (J false U)
theorem XY.of_vc {s U R} (hv : XY.vc s U R) : XY.call s U R :=
 Wa Tryz.func210 (x := XY.hint) (Eq.mpr (by kernel_rfl) hv)
def X7.hint : Hn := .q (.o 2) (.q (.o 8) (.q (.q (.reg (.seq [.op, .op, .op, .grd true 5 [.op, .op, .op, .op, .op]])) (.c (.q (.o 2) (.l)) (.l))) (.q (.o 4) (.l))))
def X7.vc (s : Option Addr) (addr : Int) (U : Hp) (R : Int -> Int -> Hp -> Prop) : Prop :=
 X4.call s addr U fun t11 t111 v =>
 JnB (fun r v1 =>
 If r (R 0 8 v1)
 (R t11 t111 v1)) fun J =>
 If (t111 == 0) (Yi.call s t11 v fun t19 v2 =>
 J (t19 != addr) v2)
 (J false v)
theorem X7.of_vc {s addr U R} (hv : X7.vc s addr U R) : X7.call s addr U R :=
 Wa Tryz.func212 (x := X7.hint) (Eq.mpr (by kernel_rfl) hv)
def Yi.hint : Hn := .q (.o 1) (.q (.oq 14) (.l))
def Yi.vc (s : Option Addr) (object : Int) (U : Hp) (R : Int -> Hp -> Prop) : Prop :=
 NilP s fun a6 =>
 LdI .i64 (a6.add 0) U fun t8 =>
 Ar .i64 (t8 * 256) fun t9 =>
 NilP s fun a12 =>
 LdI .i64 ((a12.add 1).add 0) U fun t15 =>
 Ar .i64 (object * t15) fun t16 =>
 Ar .i64 (t9 + t16) fun t17 =>
 R t17 U
theorem Yi.of_vc {s object U R} (hv : Yi.vc s object U R) : Yi.call s object U R :=
 Wa Tryz.func222 (x := Yi.hint) (Eq.mpr (by kernel_rfl) hv)
def YR.hint : Hn := .q (.o 2) (.q (.q (.o 3) (.c (.q (.o 2) (.l)) (.l))) (.q (.o 6) (.q (.q (.o 2) (.c (.q (.o 2) (.l)) (.l))) (.q (.o 4) (.q (.o 5) (.l))))))
def YR.vc (s : Option Addr) (U : Hp) (R : Int -> Int -> Hp -> Prop) : Prop :=
 XY.call s U fun t6 v =>
 If (!t6) (R 0 5 v)
 (NilP s fun a9 =>
 LdS (a9.add 4) v fun t11 =>
 WL.call t11 0 v fun i v1 =>
 If (decide (i < 0)) (R 0 6 v1)
 (Nw (.cells #[.int .i64 i] 3 (0, 0)) v1 fun n17 v2 =>
 YJ.call s 1 ⟨(some n17), 1, 1⟩ v2 fun v3 =>
 Yi.call s i v3 fun t21 v4 =>
 R t21 0 v4))
theorem YR.of_vc {s U R} (hv : YR.vc s U R) : YR.call s U R :=
 Wa Tryz.func261 (x := YR.hint) (Eq.mpr (by kernel_rfl) hv)
def YJ.hint : Hn := .q (.o 3) (.k (.loop [(10, .one (.i .i64))] (.q (.o 1) (.q (.c (.l) (.l)) (.q (.k (.q (.o 3) (.q (.reg (.tail 16 [.op, .op, .op, .op, .op, .op, .op, .op, .op, .op, .op, .op, .op, .op, .op, .op] [.op])) (.o 8)))) (.o 2))))))
def YJ.vc (s : Option Addr) (state : Int) (objects : Sl) (U : Hp) (R : Hp -> Prop) : Prop :=
 Xe [(.i .i64)] (fun I => I 0 U) fun J (t10 : Int) v =>
 If (decide (t10 < ((objects.len : Nat) : Int))) (Ix objects.a objects.len t10 1 fun a12 =>
 LdI .i64 a12 v fun i =>
 NilP s fun a15 =>
 LdI .i64 (a15.add 5) v fun t17 =>
 NilP s fun a20 =>
 LdS (a20.add 4) v fun t22 =>
 Ix t22.a t22.len i 1 fun a24 =>
 LdI .i64 a24 v fun t25 =>
 Ar .i64 (state - t25) fun t26 =>
 Ar .i64 (t17 + t26) fun t27 =>
 NilP s fun a28 =>
 St1 (a28.add 5) (.int .i64 t27) v fun v1 =>
 NilP s fun a31 =>
 LdS (a31.add 4) v1 fun t33 =>
 Ix t33.a t33.len i 1 fun a36 =>
 St1 a36 (.int .i64 state) v1 fun v2 =>
 Ar .i64 (t10 + 1) fun t37 =>
 J t37 v2)
 (R v)
theorem YJ.of_vc {s state objects U R} (hv : YJ.vc s state objects U R) : YJ.call s state objects U R :=
 Wa Tryz.func263 (x := YJ.hint) (Eq.mpr (by kernel_rfl) hv)
end Go.Proofs
namespace Go.Ar
open Go Go.Vc Go.Proofs


variable {U : Hp} {F : Rg} {p q : Nat} {c : Cls} {s : SpA}
def tkN (tk : List Bool) : List Nat := tk.map fun b => if b then 1 else 0
theorem HB (tk : List Bool) : (tkN tk).length = tk.length := by simp [tkN]
theorem VZ {tk : List Bool} {i : Nat} {b : Bool} (h : tk[i]? = some b) : (tkN tk)[i]? = some (if b then 1 else 0) := by simp [tkN, h]
theorem Wh3 (tk : List Bool) (i : Nat) (b : Bool) : tkN (tk.set i b) = (tkN tk).set i (if b then 1 else 0) := by simp [tkN, List.map_set]
structure SpH (U : Hp) (p q : Nat) (c : Cls) (s : SpA) : Prop where
 hd : ∃ cap, c.n <= cap /\ Blk U p [.int .i64 (s.st : Int), .int .i64 (c.size : Int), .int .i64 (c.pages : Int), .int .i64 (c.batch : Int), .slice (some ⟨q, 0, none⟩) c.n cap, .int .i64 (s.many : Int)]
 row : ∃ rest, Blk U q (ints (tkN s.tk) ++ rest)
 ne : p ≠ q
 len : s.tk.length = c.n
 ok : c.ok
 fit : s.st + c.pages <= 1024
theorem SpH.keep {σ' : Hp} (h : SpH U p q c s) (e : Ext F U σ') (hp : ¬ F p) (hq : ¬ F q) : SpH σ' p q c s :=
 ⟨by obtain ⟨c, h1, h2⟩ := h.hd; exact ⟨c, h1, e.blk h2 hp⟩, by obtain ⟨r, h1⟩ := h.row; exact ⟨r, e.blk h1 hq⟩, h.ne, h.len, h.ok, h.fit⟩
theorem SpH.keep0 {σ' : Hp} (h : SpH U p q c s) (e : Ext0 U σ') : SpH σ' p q c s := h.keep e id id
theorem SpH.lt (h : SpH U p q c s) : p < U.size /\ q < U.size := by
 obtain ⟨_, _, h1⟩ := h.hd; obtain ⟨_, h2⟩ := h.row; exact ⟨h1.lt, h2.lt⟩
theorem SpH.rS (h : SpH U p q c s) {K : Sl -> Prop} (hK : ∀ cap, c.n <= cap -> K ⟨some ⟨q, 0, none⟩, c.n, cap⟩) : LdS (Addr.add ⟨p, 0, none⟩ 4) U K := by
 obtain ⟨cp, h1, h2⟩ := h.hd
 exact h2.rS rfl (hK cp h1)
theorem SpH.rI (h : SpH U p q c s) {i : Nat} {x : Int} (hx : ∀ a b : Value, ([.int .i64 (s.st : Int), .int .i64 (c.size : Int), .int .i64 (c.pages : Int), .int .i64 (c.batch : Int), a, .int .i64 (s.many : Int)] : List Value)[0 + i]? = some (.int .i64 x)) {K : Int -> Prop} (hK : K x) : LdI .i64 (Addr.add ⟨p, 0, none⟩ i) U K := by
 obtain ⟨cp, h1, h2⟩ := h.hd
 exact h2.rI (hx _ .nilFunc) hK
theorem SpH.rI2 (h : SpH U p q c s) {i j : Nat} {x : Int} (hx : ∀ a b : Value, ([.int .i64 (s.st : Int), .int .i64 (c.size : Int), .int .i64 (c.pages : Int), .int .i64 (c.batch : Int), a, .int .i64 (s.many : Int)] : List Value)[0 + i + j]? = some (.int .i64 x)) {K : Int -> Prop} (hK : K x) : LdI .i64 (Addr.add (Addr.add ⟨p, 0, none⟩ i) j) U K := by
 obtain ⟨cp, h1, h2⟩ := h.hd
 exact h2.rI2 (hx _ .nilFunc) hK
theorem SpH.states (h : SpH U p q c s) (cap : Nat) : SlR ⟨some ⟨q, 0, none⟩, c.n, cap⟩ 1 (ints (tkN s.tk)) U (· = q) := by
 obtain ⟨r, h2⟩ := h.row
 refine h2.slR (o := 0) rfl (by rw [ZN, HB, h.len]; simp) fun j hj => ?_
 rw [Nat.zero_add, List.getElem?_append_left hj]
theorem VR (h : SpH U p q c s) {R : Bool -> Hp -> Prop} (hR : R true U) : XY.call (some ⟨p, 0, none⟩) U R := by
 refine XY.of_vc ?_
 unfold XY.vc
 refine JnB.intro (ifT rfl (nilP (h.rS fun cap _ => ?_)))
 have := h.ok.n_pos
 rw [decide_eq_true (by simp only; omega)]
 exact hR
theorem U7 (h : SpH U p q c s) {R : Int -> Hp -> Prop} (hR : R (c.n : Int) U) : XU.call (some ⟨p, 0, none⟩) U R := by
 refine XU.of_vc ?_
 unfold XU.vc
 exact VR h (ifF rfl (nilP (h.rS fun cap _ => hR)))
theorem GC (h : SpH U p q c s) (i : Nat) (hi : i <= 1000) {R : Int -> Hp -> Prop} (hR : R ((at_ c s i : Nat) : Int) U) : Yi.call (some ⟨p, 0, none⟩) (i : Int) U R := by
 refine Yi.of_vc ?_
 unfold Yi.vc
 have hc := h.ok
 unfold Cls.ok at hc
 have := h.fit
 have h2 : i * c.size <= 1000 * 512 := Nat.mul_le_mul hi (by omega)
 refine nilP (h.rI (fun _ _ => rfl) (arN (m := s.st * 256) (by simp) (by omega) (nilP (h.rI2 (fun _ _ => rfl) ?_))))
 exact arN (m := i * c.size) (by simp) (by omega) (arN (m := at_ c s i) (by simp [at_]) (by unfold at_; omega) hR)
theorem GH (h : SpH U p q c s) (x : Int) (hx2 : x <= 9223372036854775807) {R : Int -> Int -> Hp -> Prop} (h1 : ∀ i, idx c s x = some i -> R (i : Int) 0 U) (h0 : idx c s x = none -> R 0 8 U) : X4.call (some ⟨p, 0, none⟩) x U R := by
 refine X4.of_vc ?_
 unfold X4.vc
 have hc := h.ok
 unfold Cls.ok at hc
 have hn := h.ok.n_le
 have hfit := h.fit
 have hlen := h.len
 have hm : c.n * c.size <= 128 * 512 := Nat.mul_le_mul hn (by omega)
 refine VR h (ifF rfl (GC h 0 (by omega) ?_))
 have e0 : at_ c s 0 = s.st * 256 := by simp [at_]
 rw [e0]
 refine arW ?_
 refine Jn.intro (GC h 0 (by omega) ?_)
 rw [e0]
 refine ifD (fun hlt => ifT rfl (h0 ?_)) fun hge => ?_
 ·unfold idx; rw [if_pos (by omega)]
 ·rw [UB (by omega) (by omega)]
  obtain ⟨y, hy⟩ := Int.eq_ofNat_of_zero_le (show 0 <= x by omega)
  have key : If (decide (x - ((s.st * 256 : Nat) : Int) ≥ ((c.n * c.size : Nat) : Int))) (R 0 8 U)
   (NilP (some ⟨p, 0, none⟩) fun a35 => LdI .i64 ((a35.add 1).add 0) U fun t38 => Nz t38 <| Ar .i64 ((x - ((s.st * 256 : Nat) : Int)).tdiv t38) fun t39 => R t39 0 U) := by
   refine ifD (fun hge2 => h0 ?_) fun hlt2 => nilP (h.rI2 (fun _ _ => rfl) (nz (by omega) ?_))
   ·unfold idx; rw [hlen, if_pos (by omega)]
   ·have : idx c s x = some ((x - ((s.st * 256 : Nat) : Int)).toNat / c.size) := by unfold idx; rw [hlen, if_neg (by omega)]
    refine arN (m := (x - ((s.st * 256 : Nat) : Int)).toNat / c.size) ?_ ?_ (h1 _ this)
    ·rw [ZJ (by omega)]
     have : x - ((s.st * 256 : Nat) : Int) = (((x - ((s.st * 256 : Nat) : Int)).toNat : Nat) : Int) := by omega
     rw [this]; simp
    ·have := Nat.div_le_self (x - ((s.st * 256 : Nat) : Int)).toNat c.size
     omega
  refine nilP (nilP ⟨h.rS fun cap hcap => h.rI2 (fun _ _ => rfl) (arN (m := c.n * c.size) (by simp) (by omega) key), h.rI2 (fun _ _ => rfl) (h.rS fun cap hcap => arN (m := c.n * c.size) (by simp) (by omega) key)⟩)
theorem WaW (h : SpH U p q c s) (x : Int) (hx2 : x <= 9223372036854775807) {R : Int -> Int -> Hp -> Prop} (h1 : ∀ i, obj c s x = some i -> i < c.n -> R (i : Int) 0 U) (h0 : obj c s x = none -> R 0 8 U) : X7.call (some ⟨p, 0, none⟩) x U R := by
 refine X7.of_vc ?_
 unfold X7.vc
 have hc := h.ok
 unfold Cls.ok at hc
 have hn := h.ok.n_le
 refine GH h x hx2 (fun i hi => JnB.intro (ifT rfl ?_)) fun hi => JnB.intro (ifF rfl (ifF rfl (h0 (by unfold obj; rw [hi]))))
 have hin := ((Kw (by omega)).1 hi).2.2
 rw [h.len] at hin
 refine GC h i (by omega) (iff_ (fun he => h0 ?_) fun he => h1 i ?_ hin)
 ·have : ¬ x = ((at_ c s i : Nat) : Int) := fun e => by rw [e] at he; simp at he
  unfold obj; rw [hi]; simp [this]
 ·have : x = ((at_ c s i : Nat) : Int) := by
   have : ((at_ c s i : Nat) : Int) = x := by simpa using he
   exact this.symm
  unfold obj; rw [hi]; simp [this]
def SpA.is (s : SpA) (i : Nat) : Bool := s.tk.getD i false
theorem SpA.is_get {s : SpA} {i : Nat} (hi : i < s.tk.length) : s.tk[i]? = some (s.is i) := by
 simp [SpA.is, List.getD_eq_getElem?_getD, gGe hi]
theorem Wa8 (h : SpH U p q c s) (x : Int) (hx2 : x <= 9223372036854775807) {R : Bool -> Int -> Hp -> Prop} (h1 : ∀ i, obj c s x = some i -> R (s.is i) 0 U) (h0 : obj c s x = none -> R false 8 U) : Ym.call (some ⟨p, 0, none⟩) x U R := by
 refine Ym.of_vc ?_
 unfold Ym.vc
 refine WaW h x hx2 (fun i hi hin => ifF rfl (nilP (h.rS fun cap hcap => ?_))) fun hi => ifT rfl (h0 hi)
 rw [← h.len] at hin
 refine (h.states cap).ixN (VZ (SpA.is_get hin)) ?_
 have := h1 i hi
 cases hb : s.is i <;> rw [hb] at this <;> simpa using this
theorem UG {s : SpA} {i : Nat} (hi : i < s.tk.length) (v : Bool) : ((s.put i v).many : Int) = s.many + ((if v then 1 else 0) - (if s.is i then 1 else 0)) := by
 have key : ∀ (l : List Bool) (i : Nat) (b : Bool), l[i]? = some b -> (((l.set i v).count true : Nat) : Int) = (l.count true : Nat) + ((if v then 1 else 0) - (if b then 1 else 0)) := by
  intro l
  induction l with
  | nil => intro i b h; simp at h
  | cons x l ih =>
   intro i b h
   cases i with
   | zero =>
    simp at h; subst h
    cases v <;> cases x <;> simp [List.count_cons] <;> omega
   | succ i =>
    have := ih i b (by simpa using h)
    simp only [List.set_cons_succ, List.count_cons]
    push_cast
    omega
 exact key s.tk i _ (SpA.is_get hi)
theorem UH (s : SpA) : s.many <= s.tk.length := List.count_le_length
theorem Wdv (h : SpH U p q c s) {i : Nat} (hi : i < c.n) (v : Bool) {sl : Sl} {G : Rg} (hs : SlR sl 1 (ints [i]) U G) {R : Hp -> Prop} (hR : ∀ σ', Ext (fun b => b = p ∨ b = q) U σ' -> SpH σ' p q c (s.put i v) -> R σ') :
 YJ.call (some ⟨p, 0, none⟩) (if v then 1 else 0) sl U R := by
 refine YJ.of_vc ?_
 unfold YJ.vc
 have hl1 : sl.len = 1 := hs.lenN
 have hn := h.ok.n_le
 have hlen := h.len
 have hm := UH s
 have hit : i < s.tk.length := by omega
 have hmany := UG hit v
 refine YX (a := .i .i64) (fun (t : Int) h' => t = 0 /\ h' = U ∨ t = 1 /\ Ext (fun b => b = p ∨ b = q) U h' /\ SpH h' p q c (s.put i v)) (fun t _ => 1 - t.toNat) (.inl ⟨rfl, rfl⟩) ?_
 rintro t h' (⟨rfl, rfl⟩ | ⟨rfl, e, hS⟩)
 ·refine ifDT (by omega) ?_
  refine hs.ixN (i := 0) (x := i) rfl (nilP (h.rI (fun _ _ => rfl) (nilP (h.rS fun cap hcap => ?_))))
  refine (h.states cap).ixN (VZ (SpA.is_get hit)) ?_
  have hb1 : (0 : Int) <= (if v then 1 else 0) /\ (if v then (1 : Int) else 0) <= 1 := by cases v <;> simp
  have hb2 : (0 : Int) <= ((if s.is i then 1 else 0 : Nat) : Int) /\ ((if s.is i then 1 else 0 : Nat) : Int) <= 1 := by cases s.is i <;> simp
  have hcast : ((if s.is i then 1 else 0 : Nat) : Int) = (if s.is i then 1 else 0) := by cases s.is i <;> rfl
  refine ar (by omega) (by omega) (ar (by omega) (by omega) (nilP ?_))
  obtain ⟨cp, hcp, hd⟩ := h.hd
  obtain ⟨r, hrow⟩ := h.row
  refine hd.s1 (by simp) fun h2 ho2 hd2 => ?_
  have hrow2 := Xc ho2 hrow (Ne.symm h.ne)
  refine nilP (hd2.rS rfl (ix (by omega) (by simp only; omega) ?_))
  rw [add_lit]
  refine hrow2.s0 (by simp [ZN, HB]; omega) fun h3 ho3 hr3 => ?_
  refine arN (m := 1) (by omega) (by omega) ⟨.inr ⟨rfl, ?_, ?_⟩, by decide⟩
  ·exact (Ext.of_only (F := fun b => b = p ∨ b = q) ho2 (.inl rfl)).trans (Ext.of_only ho3 (.inr rfl))
  ·refine ⟨⟨cp, hcp, ?_⟩, ⟨r, ?_⟩, h.ne, by simp [SpA.put, h.len], h.ok, h.fit⟩
   ·have := Xc ho3 hd2 h.ne
    rw [hmany, ← hcast]
    exact this
   ·have e : (ints (tkN s.tk) ++ r).set (0 + (i : Int).toNat * 1) (.int .i64 (if v then 1 else 0)) = ints (tkN (s.put i v).tk) ++ r := by
     rw [List.set_append_left _ _ (by simp [ZN, HB]; omega)]
     congr 1
     simp only [SpA.put, Wh3, ints, List.map_set]
     have : (0 + (i : Int).toNat * 1) = i := by omega
     rw [this]
     congr 1
     cases v <;> rfl
    rw [e] at hr3
    exact hr3
 ·exact ifDF (by omega) (hR _ e hS)
theorem WhU (h : SpH U p q c s) {x : Int} {i : Nat} (hx2 : x <= 9223372036854775807) (ho : obj c s x = some i) (ht : s.is i = true) {R : Int -> Hp -> Prop} (hR : ∀ σ', Ext (fun b => b = p ∨ b = q) U σ' -> SpH σ' p q c (s.put i false) -> R 0 σ') :
 YS.call (some ⟨p, 0, none⟩) x U R := by
 refine YS.of_vc ?_
 unfold YS.vc
 refine WaW h x hx2 (fun j hj hin => ifF rfl (nilP (h.rS fun cap hcap => ?_))) fun hn => by rw [ho] at hn; cases hn
 rw [ho] at hj; cases hj
 have hin' : i < s.tk.length := by rw [h.len]; exact hin
 refine (h.states cap).ixN (VZ (SpA.is_get hin')) ?_
 rw [ht]
 refine ifF rfl (nw (cs := ints [i]) fun v hz e hb => ?_)
 have hq := h.lt
 exact Wdv (h.keep0 e) hin false (Hv hb rfl) fun σ' e' h' => hR σ' (e.to.trans e') h'
theorem Wgd (h : SpH U p q c s) {i : Nat} (hlow : low s = some i) {R : Int -> Int -> Hp -> Prop} (hR : ∀ σ', Ext (fun b => b = p ∨ b = q) U σ' -> SpH σ' p q c (s.put i true) -> R ((at_ c s i : Nat) : Int) 0 σ') :
 YR.call (some ⟨p, 0, none⟩) U R := by
 refine YR.of_vc ?_
 unfold YR.vc
 have hn := h.ok.n_le
 have hlow' := List.findIdx?_eq_some_iff_getElem.1 hlow
 obtain ⟨hi, hf, hb⟩ := hlow'
 have hfi : s.tk[i] = false := by simpa using hf
 refine VR h (ifF rfl (nilP (h.rS fun cap hcap => ?_)))
 refine Wb8 (h.states cap) (by simp [HB, h.len]; omega) 0 (fun j hj hno => ?_) fun hno => ?_
 ·have hjl : j < s.tk.length := by
   have := (gSi.1 hj).1
   rwa [HB] at this
  have hji : j = i := by
   rcases Nat.lt_trichotomy j i with h1 | h1 | h1
   ·have := hb j h1
    rw [VZ (gGe hjl)] at hj
    have : s.tk[j] = true := by simpa using this
    simp [this] at hj
   ·exact h1
   ·exact absurd (by rw [VZ (gGe hi), hfi]; rfl) (hno i h1)
  subst hji
  rw [h.len] at hi
  refine ifDF (by omega) (nw (cs := ints [j]) fun v hz e hb' => ?_)
  refine Wdv (h.keep0 e) hi true (Hv hb' rfl) fun σ' e' h' => GC h' j (by omega) (hR σ' (e.to.trans e') h')
 ·exfalso
  apply hno
  exact List.mem_of_getElem? (i := i) (by rw [VZ (gGe hi), hfi]; rfl)
theorem WgT (h : SpH U p q c s) {R : Int -> Int -> Hp -> Prop} (hR : ∀ σ', Ext0 U σ' -> R (s.st : Int) (c.pages : Int) σ') : YU.call (some ⟨p, 0, none⟩) U R := by
 refine YU.of_vc ?_
 unfold YU.vc
 refine nw (cs := [.int .i64 0, .int .i64 0]) fun v hz e hb => ?_
 have h1 := h.keep0 e
 refine VR h1 (ifF rfl (nilP (h1.rI (fun _ _ => rfl) (nilP (h1.rI2 (fun _ _ => rfl) ?_)))))
 refine hb.s1 (by simp) fun v2 ho2 hb2 => hb2.s1 (by simp) fun v3 ho3 hb3 => ?_
 refine hb3.rI rfl (hb3.rI rfl (hR _ ?_))
 exact Ext.fresh (Ext.fresh e (Ext.of_only (F := (· = U.size)) ho2 rfl) fun i hi => by omega) (Ext.of_only (F := (· = U.size)) ho3 rfl) fun i hi => by omega
theorem WcB (n : Nat) : (List.replicate n [Value.int .i64 0]).flatten = ints (List.replicate n 0) := by
 induction n with
 | zero => rfl
 | succ n ih => simp only [List.replicate_succ, List.flatten_cons, ih]; rfl
theorem Wij (hc : c.ok) {st : Nat} (hf : st + c.pages <= 1024) {R : Option Addr -> Int -> Hp -> Prop} (hR : ∀ σ' p q, Ext0 U σ' -> U.size <= p -> U.size <= q -> SpH σ' p q c ⟨st, List.replicate c.n false⟩ -> R (some ⟨p, 0, none⟩) 0 σ') :
 Qv.call (st : Int) c.size c.pages c.batch U R := by
 refine Qv.of_vc ?_
 unfold Qv.vc
 have hk := hc
 unfold Cls.ok at hk
 have hn := hc.n_le
 refine nw (cs := [.int .i64 c.size, .int .i64 c.pages, .int .i64 c.batch]) fun v hz e hb => ?_
 refine hb.rI rfl (hb.rI rfl (hb.rI rfl (HK _ _ _ (fun c' hc' e1 e2 e3 v1 ex => ?_) fun hno => ?_)))
 case refine_2 => rw [(UR c).2 hc] at hno; cases hno
 have : c' = c := by
  obtain ⟨a, b, d⟩ := c; obtain ⟨a', b', d'⟩ := c'
  simp only at e1 e2 e3
  congr 1 <;> omega
 subst this
 have hb1 := ex.blk hb id
 refine JnB.intro (ifF rfl (JnB.intro (ifDF (by omega) (hb1.rI rfl (arN (m := 1024 - c'.pages) (by omega) (by omega) (ifDF (by omega) ?_))))))
 refine ⟨fun h' => Blk h' U.size [.int .i64 c'.size, .int .i64 c'.pages, .int .i64 c'.batch], hb1, ⟨_, fun h' hS => by rw [add_lit, hS.cell]; rfl, ⟨_, fun h' hS => by rw [add_lit, hS.cell]; rfl, ⟨_, fun h' hS => by rw [add_lit, hS.cell]; rfl, ?_⟩⟩⟩⟩
 refine mk (by omega) (by omega) fun v2 hz2 ex2 hb2 => ⟨ex2.blk hb1 id, nw (cs := [.int .i64 (st : Int), .int .i64 c'.size, .int .i64 c'.pages, .int .i64 c'.batch, .slice (some ⟨v1.size, 0, none⟩) c'.n c'.n, .int .i64 0]) fun v3 hz3 ex3 hb3 => ⟨(ex2.trans ex3).blk hb1 id, ?_⟩⟩
 rw [WcB] at hb2
 have hsz := ex.1
 refine hR _ _ _ (((e.trans ex).trans ex2).trans ex3) (by omega) (show U.size <= v1.size by omega) ⟨⟨c'.n, Nat.le_refl _, ?_⟩, ⟨[], ?_⟩, by omega, by simp, hc, hf⟩
 ·have : SpA.many ⟨st, List.replicate c'.n false⟩ = 0 := by simp [SpA.many, List.count_replicate]
  rw [this]; exact hb3
 ·have : tkN (List.replicate c'.n false) = List.replicate c'.n 0 := by simp [tkN]
  rw [this, List.append_nil]
  exact ex3.blk hb2 id
theorem Wd3 (h : SpH U p q c s) {R : Option Addr -> Hp -> Prop} (hR : ∀ σ' p' q', Ext0 U σ' -> U.size <= p' -> U.size <= q' -> SpH σ' p' q' c s -> R (some ⟨p', 0, none⟩) σ') : YQ.call (some ⟨p, 0, none⟩) U R := by
 refine YQ.of_vc ?_
 unfold YQ.vc
 have hn := h.ok.n_le
 have hn1 := h.ok.n_pos
 obtain ⟨cp, hcp, hd⟩ := h.hd
 refine VR h (ifF rfl (nilP (hd.rI rfl (hd.rI rfl (hd.rI rfl (hd.rI rfl (hd.rS rfl (hd.rI rfl ?_))))))))
 refine nw (cs := [.int .i64 0, .int .i64 0, .int .i64 0, .int .i64 0, .slice none 0 0, .int .i64 0]) fun v hz e hb => ?_
 refine hb.s1 (by simp) fun v1 o1 b1 => b1.s1 (by simp) fun v2 o2 b2 => b2.s1 (by simp) fun v3 o3 b3 => b3.s1 (by simp) fun v4 o4 b4 => b4.s1 (by simp) fun v5 o5 b5 => b5.s1 (by simp) fun v6 o6 b6 => ?_
 have e6 : Ext (· = U.size) v v6 := (((((o1.ext).trans o2.ext).trans o3.ext).trans o4.ext).trans o5.ext).trans o6.ext
 have e06 : Ext0 U v6 := Ext.fresh e e6 fun i hi => by omega
 have h6 := h.keep0 e06
 refine nilP (h6.rS fun cap hcap => ?_)
 refine K4 (h6.states cap) G7 (by simp only; omega) fun s' v7 hl e7 hrow => ?_
 have b7 := e7.blk b6 id
 refine b7.s1 (by simp) fun v8 o8 b8 => ?_
 have hs6 : U.size < v6.size := b6.lt
 rcases hrow.2 with ⟨h0, _⟩ | ⟨b, cs, hq, ha, hbb, hle, hcl, ht⟩
 ·simp only at hl; omega
 ·refine hR _ _ b (Ext.fresh (e06.trans e7) o8.ext fun i hi => by omega) (Nat.le_refl _) (by omega) ⟨⟨s'.cap, ?_, ?_⟩, ⟨cs.drop (ints (tkN s.tk)).length, ?_⟩, by omega, h.len, h.ok, h.fit⟩
  ·simp only at hl; omega
  ·simp only at hl
   rw [ha, hl] at b8
   exact b8
  ·have : ints (tkN s.tk) ++ cs.drop (ints (tkN s.tk)).length = cs := by
    conv => lhs; lhs; rw [← ht]
    exact List.take_append_drop _ _
   rw [this]
   exact Xc o8 hbb (by omega)
end Go.Ar
namespace Go.Proofs
open Go.Vc

set_option maxRecDepth 100000
def XV.hint : Hn := .q (.o 1) (.q (.q (.o 3) (.c (.q (.o 1) (.l)) (.l))) (.q (.o 1) (.q (.q (.o 6) (.k (.loop [(3, .one .s), (14, .one (.i .i64))] (.q (.o 1) (.q (.c (.l) (.l)) (.q (.k (.q (.o 4) (.o 7))) (.o 2))))))) (.q (.o 2) (.l)))))
def XV.vc (l : Option Addr) (U : Hp) (R : Sl -> Hp -> Prop) : Prop :=
 Ww.call l U fun t7 v =>
 If (!t7) (R ⟨none, 0, 0⟩ v)
 (NilP l fun a10 =>
 LdS (a10.add 3) v fun t12 =>
 Xe [.s, (.i .i64)] (fun I => I ⟨none, 0, 0⟩ 0 v) fun J (out : Sl) (t14 : Int) v1 =>
 If (decide (t14 < ((t12.len : Nat) : Int))) (Ix t12.a t12.len t14 3 fun a16 =>
 LdI .i64 (a16.add 0) v1 fun t17 =>
 LdI .i64 (a16.add 1) v1 fun t171 =>
 LdP (a16.add 2) v1 fun t172 =>
 Nw (.cells #[.int .i64 0, .int .i64 0, .pointer none] 175 (0, 0)) v1 fun n5 v2 =>
 St1 (n5.add 0) (.int .i64 t17) v2 fun v3 =>
 St1 (n5.add 1) (.int .i64 t171) v3 fun v4 =>
 St1 (n5.add 2) (.pointer t172) v4 fun v5 =>
 LdP (n5.add 2) v5 fun t20 =>
 YU.call t20 v5 fun t21 t211 v6 =>
 Nw (.cells #[.int .i64 t21, .int .i64 t211] 123 (0, 0)) v6 fun n22 v7 =>
 App out 2 16 123 [.int .i64 0, .int .i64 0] ⟨(some n22), 1, 1⟩ v7 fun out1 v8 =>
 Ar .i64 (t14 + 1) fun t24 =>
 J out1 t24 v8)
 (R out v1))
theorem XV.of_vc {l U R} (hv : XV.vc l U R) : XV.call l U R :=
 Wa Tryz.func59 (x := XV.hint) (Eq.mpr (by kernel_rfl) hv)
def Yp.hint : Hn := .q (.o 1) (.q (.q (.o 3) (.c (.q (.o 1) (.l)) (.l))) (.q (.o 1) (.q (.q (.o 6) (.k (.loop [(3, .one (.i .i64)), (14, .one (.i .i64))] (.q (.o 1) (.q (.c (.l) (.l)) (.q (.k (.q (.o 4) (.reg (.held true [] (.take 0 (.take 1 (.take 2 (.take 4 (.take 5 (.take 6 (.all [(3, .take 7 (.take 8 (.take 9 (.done))))]))))))))))) (.o 2))))))) (.q (.o 2) (.l)))))
def Yp.vc (l : Option Addr) (U : Hp) (R : Int -> Hp -> Prop) : Prop :=
 Ww.call l U fun t7 v =>
 If (!t7) (R 0 v)
 (NilP l fun a10 =>
 LdS (a10.add 3) v fun t12 =>
 Xe [(.i .i64), (.i .i64)] (fun I => I 0 0 v) fun J (n : Int) (t14 : Int) v1 =>
 If (decide (t14 < ((t12.len : Nat) : Int))) (Ix t12.a t12.len t14 3 fun a16 =>
 LdI .i64 (a16.add 0) v1 fun t17 =>
 LdI .i64 (a16.add 1) v1 fun t171 =>
 LdP (a16.add 2) v1 fun t172 =>
 Nw (.cells #[.int .i64 0, .int .i64 0, .pointer none] 175 (0, 0)) v1 fun n5 v2 =>
 St1 (n5.add 0) (.int .i64 t17) v2 fun v3 =>
 St1 (n5.add 1) (.int .i64 t171) v3 fun v4 =>
 St1 (n5.add 2) (.pointer t172) v4 fun v5 =>
 Held v5 fun S =>
 LdH S .p (n5.add 2) fun (t20 : Option Addr) =>
 LdH S (.i .i64) ((n5.add 0).add 0) fun (t24 : Int) =>
 XU.call t20 v5 fun t21 v6 =>
 And (S v6) <|
 Ar .i64 (t21 - t24) fun t25 =>
 Ar .i64 (n + t25) fun n1 =>
 Ar .i64 (t14 + 1) fun t27 =>
 J n1 t27 v6)
 (R n v1))
theorem Yp.of_vc {l U R} (hv : Yp.vc l U R) : Yp.call l U R :=
 Wa Tryz.func61 (x := Yp.hint) (Eq.mpr (by kernel_rfl) hv)
def WU.hint : Hn := .q (.o 2) (.q (.q (.o 3) (.c (.q (.o 2) (.l)) (.l))) (.q (.o 4) (.q (.q (.o 2) (.c (.q (.o 2) (.l)) (.l))) (.q (.o 10) (.l)))))
def WU.vc (l : Option Addr) (addr : Int) (U : Hp) (R : Bool -> Int -> Hp -> Prop) : Prop :=
 Ww.call l U fun t8 v =>
 If (!t8) (R false 5 v)
 (XS.call l addr v fun vx v1 =>
 If vx.isNone (R false 8 v1)
 (NilP vx fun a16 =>
 LdP (a16.add 2) v1 fun t18 =>
 Ym.call t18 addr v1 fun t20 t201 v2 =>
 R t20 t201 v2))
theorem WU.of_vc {l addr U R} (hv : WU.vc l addr U R) : WU.call l addr U R :=
 Wa Tryz.func65 (x := WU.hint) (Eq.mpr (by kernel_rfl) hv)
def W4.hint : Hn := .q (.o 1) (.q (.q (.o 3) (.c (.q (.o 1) (.l)) (.l))) (.q (.o 1) (.q (.o 10) (.q (.o 2) (.l)))))
def W4.vc (l : Option Addr) (U : Hp) (R : Sl -> Hp -> Prop) : Prop :=
 Ww.call l U fun t5 v =>
 If (!t5) (R ⟨none, 0, 0⟩ v)
 (Nw (.cells #[.slice none 0 0] 109 (0, 0)) v fun n3 v1 =>
 NilP l fun a9 =>
 LdS (a9.add 3) v1 fun t11 =>
 We.call t11 ⟨147, #[], #[.pointer (some n3)]⟩ v1 fun t13 v2 =>
 NilP l fun a14 =>
 St1 (a14.add 3) (.slice t13.a t13.len t13.cap) v2 fun v3 =>
 LdS n3 v3 fun t16 =>
 R t16 v3)
theorem W4.of_vc {l U R} (hv : W4.vc l U R) : W4.call l U R :=
 Wa Tryz.func69 (x := W4.hint) (Eq.mpr (by kernel_rfl) hv)
def Yl.hint : Hn := .q (.o 2) (.q (.q (.o 3) (.c (.q (.o 2) (.l)) (.l))) (.q (.o 4) (.q (.q (.o 2) (.c (.q (.o 2) (.l)) (.l))) (.q (.o 11) (.q (.oq 16) (.l))))))
def Yl.vc (l : Option Addr) (addr : Int) (U : Hp) (R : Int -> Int -> Hp -> Prop) : Prop :=
 Ww.call l U fun t10 v =>
 If (!t10) (R 0 5 v)
 (XS.call l addr v fun vx v1 =>
 If vx.isNone (R 0 8 v1)
 (NilP vx fun a19 =>
 LdP (a19.add 2) v1 fun t21 =>
 X4.call t21 addr v1 fun t23 t231 v2 =>
 NilP vx fun a27 =>
 LdI .i64 ((a27.add 0).add 1) v2 fun t30 =>
 Ar .i64 (t30 * 256) fun t31 =>
 NilP l fun a34 =>
 LdI .i64 ((a34.add 0).add 0) v2 fun t37 =>
 Ar .i64 (t23 * t37) fun t38 =>
 Ar .i64 (t31 + t38) fun t39 =>
 R t39 0 v2))
theorem Yl.of_vc {l addr U R} (hv : Yl.vc l addr U R) : Yl.call l addr U R :=
 Wa Tryz.func80 (x := Yl.hint) (Eq.mpr (by kernel_rfl) hv)
def Zs.hint : Hn := .q (.o 3) (.q (.q (.o 7) (.q (.o 2) (.c (.q (.o 2) (.l)) (.l)))) (.q (.o 5) (.l)))
def Zs.vc (vclass : Int) (vclass1 : Int) (vclass2 : Int) (U : Hp) (R : Option Addr -> Int -> Hp -> Prop) : Prop :=
 Nw (.cells #[.int .i64 vclass, .int .i64 vclass1, .int .i64 vclass2] 51 (0, 0)) U fun n1 v =>
 LdI .i64 (n1.add 0) v fun t7 =>
 LdI .i64 (n1.add 1) v fun t71 =>
 LdI .i64 (n1.add 2) v fun t72 =>
 YW.call t7 t71 t72 v fun t8 t81 v1 =>
 If (t81 != 0) (R none 1 v1)
 (LdI .i64 (n1.add 0) v1 fun t13 =>
 LdI .i64 (n1.add 1) v1 fun t131 =>
 LdI .i64 (n1.add 2) v1 fun t132 =>
 Nw (.cells #[.int .i64 t13, .int .i64 t131, .int .i64 t132, .slice none 0 0] 170 (0, 0)) v1 fun n15 v2 =>
 R (some n15) 0 v2)
theorem Zs.of_vc {vclass vclass1 vclass2 U R} (hv : Zs.vc vclass vclass1 vclass2 U R) : Zs.call vclass vclass1 vclass2 U R :=
 Wa Tryz.func90 (x := Zs.hint) (Eq.mpr (by kernel_rfl) hv)
def X1.hint : Hn := .q (.o 1) (.q (.q (.o 3) (.c (.q (.o 1) (.l)) (.l))) (.q (.o 7) (.q (.q (.o 6) (.k (.loop [(20, .one (.i .i64))] (.q (.o 1) (.q (.c (.l) (.l)) (.q (.k (.q (.o 4) (.reg (.held true [15] (.take 0 (.take 1 (.take 2 (.take 3 (.take 4 (.take 5 (.take 6 (.take 7 (.take 8 (.all [(9, .take 10 (.all [(11, .all [(12, .take 13 (.take 14 (.all [(15, .done)])))])]))])))))))))))))) (.o 2))))))) (.q (.o 2) (.l)))))
def X1.vc (l : Option Addr) (U : Hp) (R : Option Addr -> Hp -> Prop) : Prop :=
 Ww.call l U fun t7 v =>
 If (!t7) (R none v)
 (NilP l fun a10 =>
 LdI .i64 ((a10.add 0).add 0) v fun t12 =>
 LdI .i64 ((a10.add 0).add 1) v fun t121 =>
 LdI .i64 ((a10.add 0).add 2) v fun t122 =>
 Nw (.cells #[.int .i64 t12, .int .i64 t121, .int .i64 t122, .slice none 0 0] 170 (0, 0)) v fun n14 v1 =>
 NilP l fun a16 =>
 LdS (a16.add 3) v1 fun t18 =>
 Xe [(.i .i64)] (fun I => I 0 v1) fun J (t20 : Int) v2 =>
 If (decide (t20 < ((t18.len : Nat) : Int))) (Ix t18.a t18.len t20 3 fun a22 =>
 LdI .i64 (a22.add 0) v2 fun t23 =>
 LdI .i64 (a22.add 1) v2 fun t231 =>
 LdP (a22.add 2) v2 fun t232 =>
 Nw (.cells #[.int .i64 0, .int .i64 0, .pointer none] 175 (0, 0)) v2 fun n5 v3 =>
 St1 (n5.add 0) (.int .i64 t23) v3 fun v4 =>
 St1 (n5.add 1) (.int .i64 t231) v4 fun v5 =>
 St1 (n5.add 2) (.pointer t232) v5 fun v6 =>
 Held v6 fun S =>
 NilP (some n14) fun a26 =>
 LdH S .s (a26.add 3) fun (t28 : Sl) =>
 LdH S (.i .i64) ((n5.add 0).add 0) fun (t30 : Int) =>
 LdH S (.i .i64) ((n5.add 0).add 1) fun (t301 : Int) =>
 LdH S .p (n5.add 2) fun (t32 : Option Addr) =>
 YQ.call t32 v6 fun t33 v7 =>
 And (S v7) <|
 Nw (.cells #[.int .i64 t30, .int .i64 t301, .pointer t33] 175 (0, 0)) v7 fun n35 v8 =>
 And (S v8) <|
 App t28 3 24 175 [.int .i64 0, .int .i64 0, .pointer none] ⟨(some n35), 1, 1⟩ v8 fun t36 v9 =>
 And (S v9) <|
 NilP (some n14) fun a37 =>
 St1 (a37.add 3) (.slice t36.a t36.len t36.cap) v9 fun v10 =>
 Ar .i64 (t20 + 1) fun t39 =>
 J t39 v10)
 (R (some n14) v2))
theorem X1.of_vc {l U R} (hv : X1.vc l U R) : X1.call l U R :=
 Wa Tryz.func106 (x := X1.hint) (Eq.mpr (by kernel_rfl) hv)
def YF.hint : Hn := .q (.o 1) (.q (.q (.o 3) (.c (.q (.o 1) (.l)) (.l))) (.q (.o 11) (.q (.q (.o 2) (.c (.q (.o 2) (.l)) (.l))) (.q (.q (.o 6) (.k (.loop [(31, .one (.i .i64))] (.q (.o 1) (.q (.c (.l) (.l)) (.q (.k (.q (.o 4) (.q (.oq 17) (.c (.q (.o 1) (.l)) (.l))))) (.o 2))))))) (.q (.o 11) (.q (.o 15) (.q (.o 1) (.l))))))))
def YF.vc (l : Option Addr) (start : Int) (U : Hp) (R : Int -> Hp -> Prop) : Prop :=
 Ww.call l U fun t12 v =>
 If (!t12) (R 5 v)
 (NilP l fun a17 =>
 LdI .i64 ((a17.add 0).add 0) v fun t19 =>
 LdI .i64 ((a17.add 0).add 1) v fun t191 =>
 LdI .i64 ((a17.add 0).add 2) v fun t192 =>
 Qv.call start t19 t191 t192 v fun t20 t201 v1 =>
 If (t201 != 0) (R t201 v1)
 (NilP l fun a27 =>
 LdS (a27.add 3) v1 fun t29 =>
 Xe [(.i .i64)] (fun I => I 0 v1) fun J (t31 : Int) v2 =>
 If (decide (t31 < ((t29.len : Nat) : Int))) (Ix t29.a t29.len t31 3 fun a33 =>
 LdI .i64 (a33.add 0) v2 fun t34 =>
 LdI .i64 (a33.add 1) v2 fun t341 =>
 LdP (a33.add 2) v2 fun t342 =>
 Nw (.cells #[.int .i64 0, .int .i64 0, .pointer none] 175 (0, 0)) v2 fun n8 v3 =>
 St1 (n8.add 0) (.int .i64 t34) v3 fun v4 =>
 St1 (n8.add 1) (.int .i64 t341) v4 fun v5 =>
 St1 (n8.add 2) (.pointer t342) v5 fun v6 =>
 LdI .i64 ((n8.add 0).add 1) v6 fun t37 =>
 LdI .i64 ((n8.add 0).add 1) v6 fun t42 =>
 Ar .i64 ((if start > t37 then start else t37) - (if start < t42 then start else t42)) fun t45 =>
 NilP l fun a47 =>
 LdI .i64 ((a47.add 0).add 1) v6 fun t50 =>
 If (decide (t45 < t50)) (R 9 v6)
 (Ar .i64 (t31 + 1) fun t52 =>
 J t52 v6))
 (NilP l fun a55 =>
 LdS (a55.add 3) v2 fun t57 =>
 Wb.call t57 start ⟨205, #[], #[]⟩ v2 fun t59 t591 v7 =>
 NilP l fun a64 =>
 LdS (a64.add 3) v7 fun t66 =>
 Nw (.cells #[.int .i64 0, .int .i64 start, .pointer t20] 175 (0, 0)) v7 fun n72 v8 =>
 Wf.call t66 t59 ⟨(some n72), 1, 1⟩ v8 fun t73 v9 =>
 NilP l fun a74 =>
 St1 (a74.add 3) (.slice t73.a t73.len t73.cap) v9 fun v10 =>
 R 0 v10)))
theorem YF.of_vc {l start U R} (hv : YF.vc l start U R) : YF.call l start U R :=
 Wa Tryz.func130 (x := YF.hint) (Eq.mpr (by kernel_rfl) hv)
def Xf.hint : Hn := .q (.o 2) (.q (.k (.q (.o 4) (.c (.q (.o 2) (.l)) (.q (.o 3) (.c (.q (.o 2) (.l)) (.l)))))) (.q (.o 1) (.q (.k (.loop [(6, .one .s)] (.q (.q (.o 4) (.c (.l) (.l))) (.k (.q (.o 7) (.q (.q (.o 2) (.c (.l) (.l))) (.o 5))))))) (.q (.o 3) (.l)))))
def Xf.vc (l : Option Addr) (many : Int) (U : Hp) (R : Sl -> Int -> Hp -> Prop) : Prop :=
 Ww.call l U fun t11 v =>
 If (!t11) (R ⟨none, 0, 0⟩ 5 v)
 (If (decide (many < 0)) (R ⟨none, 0, 0⟩ 1 v)
 (Xe [.s] (fun I => I ⟨none, 0, 0⟩ v) fun J (out : Sl) v1 =>
 If (decide (((out.len : Nat) : Int) < many)) (YB.call l v1 fun t22 t221 v2 =>
 If (!t221) (R out 0 v2)
 (Nw (.cells #[.int .i64 t22] 3 (0, 0)) v2 fun n29 v3 =>
 App out 1 8 3 [.int .i64 0] ⟨(some n29), 1, 1⟩ v3 fun out1 v4 =>
 J out1 v4))
 (R out 0 v1)))
theorem Xf.of_vc {l many U R} (hv : Xf.vc l many U R) : Xf.call l many U R :=
 Wa Tryz.func131 (x := Xf.hint) (Eq.mpr (by kernel_rfl) hv)
def YE.hint : Hn := .q (.o 2) (.q (.q (.o 3) (.c (.q (.o 2) (.l)) (.l))) (.q (.o 1) (.q (.q (.o 3) (.k (.loop [(6, .one .b), (19, .one (.i .i64))] (.q (.o 1) (.q (.c (.l) (.l)) (.q (.k (.q (.o 5) (.q (.o 8) (.q (.q (.o 2) (.c (.q (.o 3) (.l)) (.l))) (.reg (.seq [.op, .op, .grd false 2 [.op, .op], .op, .grd false 5 [.op, .op, .op, .op, .op], .op])))))) (.o 2))))))) (.q (.q (.o 1) (.c (.q (.o 2) (.l)) (.l))) (.q (.q (.o 3) (.k (.loop [(49, .one (.i .i64))] (.q (.o 1) (.q (.c (.l) (.l)) (.q (.k (.q (.o 3) (.q (.o 4) (.q (.o 6) (.o 10))))) (.o 2))))))) (.q (.o 4) (.l)))))))
def YE.vc (l : Option Addr) (objects : Sl) (U : Hp) (R : Sl -> Int -> Hp -> Prop) : Prop :=
 Ww.call l U fun t15 v =>
 If (!t15) (R ⟨none, 0, 0⟩ 5 v)
 (Xe [.b, (.i .i64)] (fun I => I false 0 v) fun J (twice : Bool) (t19 : Int) v1 =>
 If (decide (t19 < ((objects.len : Nat) : Int))) (Ix objects.a objects.len t19 1 fun a22 =>
 LdI .i64 a22 v1 fun addr =>
 WU.call l addr v1 fun t27 t271 v2 =>
 If (t271 != 0) (R ⟨none, 0, 0⟩ t271 v2)
 (JnB (fun r v3 =>
 JnB (fun r1 v4 =>
 Ar .i64 (t19 + 1) fun t45 =>
 J r1 t45 v4) fun J2 =>
 If r (J2 true v3)
 (SlcL objects 1 0 t19 (objects.cap : Nat) fun t41 =>
 Wn.call t41 addr v3 fun t43 v5 =>
 J2 t43 v5)) fun J1 =>
 If twice (J1 true v2)
 (J1 (!t27) v2)))
 (If twice (R ⟨none, 0, 0⟩ 9 v1)
 (Xe [(.i .i64)] (fun I1 => I1 0 v1) fun J3 (t49 : Int) v6 =>
 If (decide (t49 < ((objects.len : Nat) : Int))) (Ix objects.a objects.len t49 1 fun a51 =>
 LdI .i64 a51 v6 fun addr1 =>
 XS.call l addr1 v6 fun vx v7 =>
 NilP vx fun a57 =>
 LdP (a57.add 2) v7 fun t59 =>
 YS.call t59 addr1 v7 fun t61 v8 =>
 NilP vx fun a63 =>
 LdI .i64 ((a63.add 0).add 0) v8 fun t66 =>
 Ar .i64 (t66 - 1) fun t67 =>
 NilP vx fun a68 =>
 St1 ((a68.add 0).add 0) (.int .i64 t67) v8 fun v9 =>
 Ar .i64 (t49 + 1) fun t71 =>
 J3 t71 v9)
 (W4.call l v6 fun t73 v10 =>
 R t73 0 v10))))
theorem YE.of_vc {l objects U R} (hv : YE.vc l objects U R) : YE.call l objects U R :=
 Wa Tryz.func132 (x := YE.hint) (Eq.mpr (by kernel_rfl) hv)
def Ww.hint : Hn := .q (.o 1) (.q (.reg (.seq [.op, .op, .op, .grd true 6 [.op, .op, .op, .op, .op, .op], .op])) (.l))
def Ww.vc (l : Option Addr) (U : Hp) (R : Bool -> Hp -> Prop) : Prop :=
 JnB (fun r v =>
 R r v) fun J =>
 If (!l.isNone) (NilP l fun a7 =>
 LdI .i64 ((a7.add 0).add 0) U fun t10 =>
 J (decide (t10 > 0)) U)
 (J false U)
theorem Ww.of_vc {l U R} (hv : Ww.vc l U R) : Ww.call l U R :=
 Wa Tryz.func135 (x := Ww.hint) (Eq.mpr (by kernel_rfl) hv)
def XS.hint : Hn := .q (.o 1) (.q (.q (.o 6) (.k (.loop [(13, .one (.i .i64))] (.q (.o 1) (.q (.c (.l) (.l)) (.q (.k (.q (.o 2) (.q (.o 15) (.q (.o 2) (.c (.q (.o 7) (.l)) (.l)))))) (.o 2))))))) (.q (.o 1) (.l)))
def XS.vc (l : Option Addr) (addr : Int) (U : Hp) (R : Option Addr -> Hp -> Prop) : Prop :=
 NilP l fun a9 =>
 LdS (a9.add 3) U fun t11 =>
 Xe [(.i .i64)] (fun I => I 0 U) fun J (t13 : Int) v =>
 If (decide (t13 < ((t11.len : Nat) : Int))) (NilP l fun a18 =>
 LdS (a18.add 3) v fun t20 =>
 Ix t20.a t20.len t13 3 fun a22 =>
 LdP (a22.add 2) v fun t24 =>
 X4.call t24 addr v fun t26 t261 v1 =>
 If (t261 == 0) (NilP l fun a32 =>
 LdS (a32.add 3) v1 fun t34 =>
 Ix t34.a t34.len t13 3 fun a36 =>
 R (some a36) v1)
 (Ar .i64 (t13 + 1) fun t37 =>
 J t37 v1))
 (R none v)
theorem XS.of_vc {l addr U R} (hv : XS.vc l addr U R) : XS.call l addr U R :=
 Wa Tryz.func141 (x := XS.hint) (Eq.mpr (by kernel_rfl) hv)
def X2.hint : Hn := .q (.o 2) (.sjn [] (.q (.o 4) (.c (.reg (.held true [6] (.take 0 (.take 1 (.take 2 (.all [(3, .all [(4, .all [(5, .all [(6, .done)])])])])))))) (.l))) (.q (.o 5) (.l)))
def X2.vc (vx : Int) (vx1 : Int) (vx2 : Option Addr) (cap0 : Addr) (U : Hp) (R : Bool -> Hp -> Prop) : Prop :=
 Nw (.cells #[.int .i64 vx, .int .i64 vx1, .pointer vx2] 175 (0, 0)) U fun n2 v =>
 Jn [] (fun v1 =>
 LdI .i64 ((n2.add 0).add 0) v1 fun t16 =>
 R (t16 == 0) v1) fun J =>
 LdI .i64 ((n2.add 0).add 0) v fun t6 =>
 If (t6 == 0) (Held v fun S =>
 LdH S .s cap0 fun (t8 : Sl) =>
 LdH S .p (n2.add 2) fun (t10 : Option Addr) =>
 YU.call t10 v fun t11 t111 v2 =>
 And (S v2) <|
 Nw (.cells #[.int .i64 t11, .int .i64 t111] 123 (0, 0)) v2 fun n12 v3 =>
 And (S v3) <|
 App t8 2 16 123 [.int .i64 0, .int .i64 0] ⟨(some n12), 1, 1⟩ v3 fun t13 v4 =>
 And (S v4) <|
 St1 cap0 (.slice t13.a t13.len t13.cap) v4 fun v5 =>
 J v5)
 (J v)
theorem X2.of_vc {vx vx1 vx2 cap0 U R} (hv : X2.vc vx vx1 vx2 cap0 U R) : X2.call vx vx1 vx2 cap0 U R :=
 Wa Tryz.func147 (x := X2.hint) (Eq.mpr (by kernel_rfl) hv)
def YA.hint : Hn := .q (.o 2) (.q (.o 6) (.l))
def YA.vc (vx : Int) (vx1 : Int) (vx2 : Option Addr) (start : Int) (U : Hp) (R : Int -> Hp -> Prop) : Prop :=
 Nw (.cells #[.int .i64 vx, .int .i64 vx1, .pointer vx2] 175 (0, 0)) U fun n2 v =>
 LdI .i64 ((n2.add 0).add 1) v fun t7 =>
 Ar .i64 (t7 - start) fun t9 =>
 R t9 v
theorem YA.of_vc {vx vx1 vx2 start U R} (hv : YA.vc vx vx1 vx2 start U R) : YA.call vx vx1 vx2 start U R :=
 Wa Tryz.func205 (x := YA.hint) (Eq.mpr (by kernel_rfl) hv)
def YB.hint : Hn := .q (.o 2) (.q (.o 1) (.q (.q (.o 6) (.k (.loop [(4, .one .p), (14, .one (.i .i64))] (.q (.o 1) (.q (.c (.l) (.l)) (.q (.k (.q (.o 2) (.q (.o 7) (.q (.reg (.heldJ true [] [(48, .one .b)] (.take 0 (.take 1 (.take 2 (.take 3 (.take 4 (.take 5 (.take 6 (.take 7 (.take 8 (.all [(9, .take 10 (.take 11 (.split 34 (.take 12 (.take 13 (.take 14 (.split 37 (.take 15 (.take 16 (.take 17 (.take 18 (.take 19 (.take 20 (.take 21 (.take 22 (.take 23 (.take 24 (.take 25 (.done)))))))))))) (.take 15 (.take 16 (.take 17 (.take 19 (.take 20 (.take 21 (.all [(18, .all [(22, .all [(23, .take 24 (.take 25 (.done)))])]), (22, .all [(18, .all [(23, .take 24 (.take 25 (.done)))])])]))))))))))) (.take 12 (.take 13 (.take 14 (.take 15 (.take 16 (.take 17 (.take 18 (.take 19 (.take 20 (.take 21 (.take 22 (.take 23 (.take 24 (.take 25 (.done))))))))))))))))))])))))))))))) (.c (.o 2) (.l)))))) (.o 2))))))) (.q (.q (.o 2) (.c (.q (.o 2) (.l)) (.l))) (.q (.o 10) (.q (.o 10) (.q (.o 3) (.l)))))))
def YB.vc (l : Option Addr) (U : Hp) (R : Int -> Bool -> Hp -> Prop) : Prop :=
 NilP l fun a10 =>
 LdS (a10.add 3) U fun t12 =>
 Xe [.p, (.i .i64)] (fun I => I none 0 U) fun J (best : Option Addr) (t14 : Int) v =>
 If (decide (t14 < ((t12.len : Nat) : Int))) (NilP l fun a18 =>
 LdS (a18.add 3) v fun t20 =>
 Ix t20.a t20.len t14 3 fun a22 =>
 Jn [.b] (fun (t48 : Bool) v1 =>
 If t48 (Ar .i64 (t14 + 1) fun t50 =>
 J (some a22) t50 v1)
 (Ar .i64 (t14 + 1) fun t501 =>
 J best t501 v1)) fun J1 =>
 Held v fun S =>
 NilP (some a22) fun a24 =>
 LdH S (.i .i64) ((a24.add 0).add 0) fun (t27 : Int) =>
 NilP (some a22) fun a29 =>
 LdH S .p (a29.add 2) fun (t31 : Option Addr) =>
 XU.call t31 v fun t32 v2 =>
 And (S v2) <|
 If (decide (t27 < t32)) (If best.isNone (J1 true v2)
 (NilP (some a22) fun a39 =>
 NilP best fun a43 =>
 (LdI .i64 ((a39.add 0).add 0) v2 fun t41 =>
 LdI .i64 ((a39.add 0).add 1) v2 fun t411 =>
 And (S v2) <|
 LdI .i64 ((a43.add 0).add 0) v2 fun t45 =>
 LdI .i64 ((a43.add 0).add 1) v2 fun t451 =>
 And (S v2) <|
 Xa.call t41 t411 t45 t451 v2 fun t46 v3 =>
 And (S v3) <|
 J1 t46 v3) ∧
 (LdI .i64 ((a43.add 0).add 0) v2 fun t452 =>
 LdI .i64 ((a43.add 0).add 1) v2 fun t453 =>
 And (S v2) <|
 LdI .i64 ((a39.add 0).add 0) v2 fun t412 =>
 LdI .i64 ((a39.add 0).add 1) v2 fun t413 =>
 And (S v2) <|
 Xa.call t412 t413 t452 t453 v2 fun t461 v4 =>
 And (S v4) <|
 J1 t461 v4)))
 (J1 false v2))
 (If best.isNone (R 0 false v)
 (NilP best fun a55 =>
 LdP (a55.add 2) v fun t57 =>
 YR.call t57 v fun t58 t581 v5 =>
 NilP best fun a62 =>
 LdI .i64 ((a62.add 0).add 0) v5 fun t65 =>
 Ar .i64 (t65 + 1) fun t66 =>
 NilP best fun a67 =>
 St1 ((a67.add 0).add 0) (.int .i64 t66) v5 fun v6 =>
 R t58 true v6))
theorem YB.of_vc {l U R} (hv : YB.vc l U R) : YB.call l U R :=
 Wa Tryz.func207 (x := YB.hint) (Eq.mpr (by kernel_rfl) hv)
def Xa.hint : Hn := .q (.o 3) (.q (.reg (.seq [.op, .op, .op, .op, .op, .op, .grd false 12 [.op, .op, .op, .op, .op, .op, .grd true 5 [.op, .op, .op, .op, .op]], .op])) (.l))
def Xa.vc (r : Int) (r1 : Int) (q : Int) (q1 : Int) (U : Hp) (R : Bool -> Hp -> Prop) : Prop :=
 Nw (.cells #[.int .i64 r, .int .i64 r1] 172 (0, 0)) U fun n2 v =>
 Nw (.cells #[.int .i64 q, .int .i64 q1] 172 (0, 0)) v fun n3 v1 =>
 LdI .i64 (n2.add 0) v1 fun t6 =>
 LdI .i64 (n3.add 0) v1 fun t8 =>
 JnB (fun r2 v2 =>
 R r2 v2) fun J =>
 If (decide (t6 > t8)) (J true v1)
 (LdI .i64 (n2.add 0) v1 fun t12 =>
 LdI .i64 (n3.add 0) v1 fun t14 =>
 JnB (fun r3 v3 =>
 J r3 v3) fun J1 =>
 If (t12 == t14) (LdI .i64 (n2.add 1) v1 fun t18 =>
 LdI .i64 (n3.add 1) v1 fun t20 =>
 J1 (decide (t18 < t20)) v1)
 (J1 false v1))
theorem Xa.of_vc {r r1 q q1 U R} (hv : Xa.vc r r1 q q1 U R) : Xa.call r r1 q q1 U R :=
 Wa Tryz.func260 (x := Xa.hint) (Eq.mpr (by kernel_rfl) hv)
end Go.Proofs
namespace Go.Ar
open Go Go.Vc Go.Proofs


variable {U : Hp} {F : Rg} {p : Nat} {c : Cls} {ps : List (Nat × Nat)} {ss : List SpA}
def blks (ps : List (Nat × Nat)) : List Nat := ps.flatMap fun x => [x.1, x.2]
theorem VG {ps : List (Nat × Nat)} {b : Nat} : b ∈ blks ps ↔ ∃ x ∈ ps, b = x.1 ∨ b = x.2 := by simp [blks]
def entV : List (Nat × Nat) -> List SpA -> List Value
 | x :: ps, s :: ss => .int .i64 (s.many : Int) :: .int .i64 (s.st : Int) :: .pointer (some ⟨x.1, 0, none⟩) :: entV ps ss
 | _, _ => []
theorem ZY : ∀ {ps : List (Nat × Nat)} {ss : List SpA}, ps.length = ss.length -> (entV ps ss).length = 3 * ss.length
 | [], [], _ => rfl
 | x :: ps, s :: ss, h => by simp only [entV, List.length_cons] at *; rw [ZY (by omega)]; omega
theorem Zx : ∀ {ps : List (Nat × Nat)} {ss : List SpA} {i : Nat} {x : Nat × Nat} {s : SpA}, ps[i]? = some x -> ss[i]? = some s →
 (entV ps ss)[3 * i]? = some (.int .i64 (s.many : Int)) /\ (entV ps ss)[3 * i + 1]? = some (.int .i64 (s.st : Int)) /\ (entV ps ss)[3 * i + 2]? = some (.pointer (some ⟨x.1, 0, none⟩))
 | [], _, _, _, _, h, _ => by simp at h
 | _ :: _, [], _, _, _, _, h => by simp at h
 | y :: ps, t :: ss, 0, x, s, h1, h2 => by simp at h1 h2; subst h1; subst h2; simp [entV]
 | y :: ps, t :: ss, i + 1, x, s, h1, h2 => by
  have := Zx (ps := ps) (ss := ss) (i := i) (by simpa using h1) (by simpa using h2)
  simp only [entV]
  rw [show 3 * (i + 1) = 3 * i + 3 by omega]
  simpa using this
theorem Qr : ∀ {ps ps' : List (Nat × Nat)} {ss ss' : List SpA}, ps.length = ss.length -> entV (ps ++ ps') (ss ++ ss') = entV ps ss ++ entV ps' ss'
 | [], _, [], _, _ => rfl
 | x :: ps, _, s :: ss, _, h => by simp only [List.cons_append, entV, Qr (ps := ps) (ss := ss) (by simpa using h)]
theorem WaH : ∀ {ps : List (Nat × Nat)} {ss : List SpA}, ∀ v ∈ entV ps ss, one1 v = true
 | [], _, v, h => by simp [entV] at h
 | _ :: _, [], v, h => by simp [entV] at h
 | x :: ps, s :: ss, v, h => by
  simp only [entV, List.mem_cons] at h
  rcases h with rfl | rfl | rfl | h
  ·rfl
  ·rfl
  ·rfl
  ·exact WaH v h
structure CeH (U : Hp) (F : Rg) (p : Nat) (c : Cls) (ps : List (Nat × Nat)) (ss : List SpA) : Prop where
 hd : ∃ sl : Sl, Blk U p [.int .i64 (c.size : Int), .int .i64 (c.pages : Int), .int .i64 (c.batch : Int), .slice sl.a sl.len sl.cap] /\ RowR sl 3 (entV ps ss) U (fun b => F b /\ b ≠ p /\ b ∉ blks ps)
 sp : ∀ (i : Nat) (x : Nat × Nat) s, ps[i]? = some x -> ss[i]? = some s -> SpH U x.1 x.2 c s
 fp : F p
 fb : ∀ b ∈ blks ps, F b
 nd : (p :: blks ps).Nodup
 len : ps.length = ss.length
 ok : c.ok
 srt : ss.Pairwise (fun a b => a.st < b.st)
theorem CeH.loc : Lcl fun U F => CeH U F p c ps ss := fun U σ' F G h hz hs => by
 obtain ⟨sl, hb, hr⟩ := h.hd
 have keep : ∀ b, b < U.size -> F b -> σ'[b]? = U[b]? := fun b hb hf => (hs b hb hf).2
 have kb : ∀ {b : Nat} {cs : List Value}, Blk U b cs -> F b -> Blk σ' b cs := by
  rintro b cs ⟨e, he⟩ hf
  exact ⟨e, (keep b (Blk.lt ⟨e, he⟩) hf).trans he⟩
 have lt : ∀ b ∈ blks ps, b < U.size := by
  intro b hb
  obtain ⟨x, hx, hbx⟩ := VG.1 hb
  obtain ⟨i, hi⟩ := List.getElem?_of_mem hx
  have hil := (gSi.1 hi).1
  have := (h.sp i x _ hi (gGe (by rw [← h.len]; exact hil))).lt
  rcases hbx with rfl | rfl
  ·exact this.1
  ·exact this.2
 refine ⟨⟨sl, kb hb h.fp, RowR.loc _ _ _ _ _ _ _ hr hz fun b hb hf => ⟨⟨(hs b hb hf.1).1, hf.2⟩, (hs b hb hf.1).2⟩⟩, fun i x s hx hsx => ?_, (hs p hb.lt h.fp).1, fun b hb => (hs b (lt b hb) (h.fb b hb)).1, h.nd, h.len, h.ok, h.srt⟩
 have h1 := h.sp i x s hx hsx
 have m1 : x.1 ∈ blks ps := VG.2 ⟨x, List.mem_of_getElem? hx, .inl rfl⟩
 have m2 : x.2 ∈ blks ps := VG.2 ⟨x, List.mem_of_getElem? hx, .inr rfl⟩
 obtain ⟨cp, hc, hd⟩ := h1.hd
 obtain ⟨r, hr⟩ := h1.row
 exact ⟨⟨cp, hc, kb hd (h.fb _ m1)⟩, ⟨r, kb hr (h.fb _ m2)⟩, h1.ne, h1.len, h1.ok, h1.fit⟩
theorem CeH.keep0 {σ' : Hp} (h : CeH U F p c ps ss) (e : Ext0 U σ') : CeH σ' F p c ps ss := Lcl.keep0 CeH.loc h e
theorem CeH.few (h : CeH U F p c ps ss) : ss.length <= 1024 := by
 have key : ∀ i (hi : i < ss.length), i <= ss[i].st := by
  intro i
  induction i with
  | zero => intro _; omega
  | succ i ih =>
   intro hi
   have h1 := ih (by omega)
   have h2 := List.pairwise_iff_getElem.1 h.srt i (i + 1) (by omega) hi (by omega)
   omega
 rcases Nat.eq_zero_or_pos ss.length with h0 | h0
 ·omega
 ·have hl : ss.length - 1 < ss.length := by omega
  have h1 := key _ hl
  have hp : ss.length - 1 < ps.length := by rw [h.len]; exact hl
  have h2 := (h.sp _ _ _ (gGe hp) (gGe hl)).fit
  have := h.ok.2.2.2.1
  omega
structure EnR (U : Hp) (F : Rg) (p : Nat) (ps : List (Nat × Nat)) (ss : List SpA) (sl : Sl) (rb : Nat) (cs : List Value) : Prop where
 a : sl.a = some ⟨rb, 0, none⟩
 blk : Blk U rb cs
 fr : F rb /\ rb ≠ p /\ rb ∉ blks ps
 get : ∀ {j : Nat} {v : Value}, (entV ps ss)[j]? = some v -> cs[j]? = some v
 lenC : 3 * ss.length <= cs.length
theorem CeH.sl (h : CeH U F p c ps ss) : ∃ sl : Sl, Blk U p [.int .i64 (c.size : Int), .int .i64 (c.pages : Int), .int .i64 (c.batch : Int), .slice sl.a sl.len sl.cap] /\ sl.len = ss.length /\ (ss ≠ [] -> ∃ rb cs, EnR U F p ps ss sl rb cs) := by
 obtain ⟨sl, hb, hr⟩ := h.hd
 have hl := hr.1
 rw [ZY h.len] at hl
 refine ⟨sl, hb, by omega, fun hne => ?_⟩
 have hpos : 0 < ss.length := List.length_pos_iff.2 hne
 rcases hr.2 with ⟨h0, _⟩ | ⟨b, cs, hq, ha, hbb, hle, hcl, ht⟩
 ·omega
 ·refine ⟨b, cs, ha, hbb, hq, fun {j v} hj => ?_, ?_⟩
  ·rw [← ht, List.getElem?_take] at hj
   split at hj
   ·exact hj
   ·cases hj
  ·have := congrArg List.length ht
   rw [List.length_take, ZY h.len] at this
   omega
theorem CeH.at_i (h : CeH U F p c ps ss) {i : Nat} (hi : i < ss.length) : ∃ x s, ps[i]? = some x /\ ss[i]? = some s /\ SpH U x.1 x.2 c s := by
 have hi2 : i < ps.length := by rw [h.len]; exact hi
 have h1 : ps[i]? = some ps[i] := gGe hi2
 exact ⟨_, _, h1, gGe hi, h.sp i _ _ h1 (gGe hi)⟩
theorem Qy (h : CeH U F p c ps ss) {R : Bool -> Hp -> Prop} (hR : R true U) : Ww.call (some ⟨p, 0, none⟩) U R := by
 refine Ww.of_vc ?_
 unfold Ww.vc
 obtain ⟨sl, hb, hl, hr⟩ := h.sl
 have hc := h.ok
 unfold Cls.ok at hc
 refine JnB.intro (ifT rfl (nilP (hb.rI2 rfl ?_)))
 rw [decide_eq_true (by omega)]
 exact hR
def I63 (x : Int) : Prop := x <= 9223372036854775807
theorem WdV (h : CeH U F p c ps ss) (x : Int) (hx : I63 x) {R : Option Addr -> Hp -> Prop} (h0 : ofS c ss x = none -> R none U)
 (h1 : ∀ (i : Nat) sl rb cs, ofS c ss x = some i -> i < ss.length -> Blk U p [.int .i64 (c.size : Int), .int .i64 (c.pages : Int), .int .i64 (c.batch : Int), .slice sl.a sl.len sl.cap] -> EnR U F p ps ss sl rb cs -> R (some ⟨rb, 3 * i, none⟩) U) : XS.call (some ⟨p, 0, none⟩) x U R := by
 refine XS.of_vc ?_
 unfold XS.vc
 obtain ⟨sl, hb, hl, hr⟩ := h.sl
 have hfew := h.few
 refine nilP (hb.rS rfl ?_)
 refine YX (a := .i .i64) (fun (t : Int) h' => ∃ i : Nat, t = (i : Int) /\ i <= ss.length /\ h' = U /\ ∀ (j : Nat) s, j < i -> ss[j]? = some s -> idx c s x = none) (fun t _ => ss.length - t.toNat) ⟨0, rfl, by omega, rfl, fun j s hj => by omega⟩ ?_
 rintro t h' ⟨i, rfl, hi, rfl, hno⟩
 refine ifD (fun hlt => ?_) fun hge => ?_
 ·simp only at hlt
  have hi' : i < ss.length := by omega
  obtain ⟨xx, s, hp, hs, hS⟩ := h.at_i hi'
  obtain ⟨rb, cs, E⟩ := hr (by rintro rfl; simp at hi')
  have eg := Zx hp hs
  refine nilP (hb.rS rfl ?_)
  rw [E.a]
  refine ix (by omega) (by omega) ?_
  rw [add_lit]
  refine E.blk.rP (x := some ⟨xx.1, 0, none⟩) ?_ ?_
  ·have := E.get eg.2.2
   rw [show 0 + (i : Int).toNat * 3 + 2 = 3 * i + 2 by omega]; exact this
  have hfind : ∀ r, idx c s x = some r -> ofS c ss x = some i := by
   intro r hr'
   refine List.findIdx?_eq_some_iff_getElem.2 ⟨hi', ?_, fun j hj => ?_⟩
   ·have : ss[i] = s := by rw [gGe hi'] at hs; simpa using hs
    rw [this, hr']; rfl
   ·rw [hno j _ hj (gGe (by omega))]; simp
  refine GH hS x hx (fun r hr' => ifT rfl (nilP (hb.rS rfl ?_))) fun hn => ifF rfl ?_
  ·rw [E.a]
   refine ix (by omega) (by omega) ?_
   rw [add_lit, show 0 + (i : Int).toNat * 3 = 3 * i by omega]
   exact h1 i sl rb cs (hfind r hr') hi' hb E
  ·refine arN (m := i + 1) (by omega) (by omega) ⟨⟨i + 1, rfl, by omega, rfl, fun j s' hj hs' => ?_⟩, by omega⟩
   by_cases e : j = i
   ·subst e; rw [hs] at hs'; cases hs'; exact hn
   ·exact hno j s' (by omega) hs'
 ·refine h0 ?_
  refine List.findIdx?_eq_none_iff.2 fun s hs => ?_
  obtain ⟨j, hj⟩ := List.getElem?_of_mem hs
  have := (gSi.1 hj).1
  rw [hno j s (by simp only at hge; omega) hj]
  rfl
theorem Kf {x : Int} {k : Nat} {s : SpA} (hk : ofS c ss x = some k) (hs : ss[k]? = some s) : isTk c ss x = (obj c s x).map s.is := by
 unfold isTk
 rw [hk]; simp only [hs]; rfl
theorem Hb {x : Int} (hk : ofS c ss x = none) : isTk c ss x = none := by unfold isTk; rw [hk]
theorem Vq (h : CeH U F p c ps ss) (x : Int) (hx : I63 x) {R : Bool -> Int -> Hp -> Prop} (h1 : ∀ b, isTk c ss x = some b -> R b 0 U) (h0 : isTk c ss x = none -> R false 8 U) : WU.call (some ⟨p, 0, none⟩) x U R := by
 refine WU.of_vc ?_
 unfold WU.vc
 refine Qy h (ifF rfl (WdV h x hx (fun hn => ifT rfl (h0 (Hb hn))) fun i sl rb cs hof hi hb E => ifF rfl (nilP ?_)))
 obtain ⟨xx, s, hp, hs, hS⟩ := h.at_i hi
 have eg := Zx hp hs
 refine E.blk.rP (x := some ⟨xx.1, 0, none⟩) (E.get eg.2.2) ?_
 have hk := Kf hof hs
 exact Wa8 hS x hx (fun j hj => h1 _ (by rw [hk, hj]; rfl)) fun hn => h0 (by rw [hk, hn]; rfl)
theorem V4 {x : Int} {k : Nat} {s : SpA} (hk : ofS c ss x = some k) (hs : ss[k]? = some s) : Gp c ss x = (idx c s x).map (at_ c s) := by
 unfold Gp
 rw [hk]; simp only [hs]
theorem HO {x : Int} (hk : ofS c ss x = none) : Gp c ss x = none := by unfold Gp; rw [hk]
theorem WhL {x : Int} {k : Nat} {s : SpA} (hk : ofS c ss x = some k) (hs : ss[k]? = some s) : ∃ i, idx c s x = some i := by
 obtain ⟨hi, hf, _⟩ := List.findIdx?_eq_some_iff_getElem.1 hk
 have : ss[k] = s := by rw [gGe hi] at hs; simpa using hs
 rw [this] at hf
 exact Option.isSome_iff_exists.1 hf
theorem Wgt (h : CeH U F p c ps ss) (x : Int) (hx : I63 x) {R : Int -> Int -> Hp -> Prop} (h1 : ∀ a, Gp c ss x = some a -> R (a : Int) 0 U) (h0 : Gp c ss x = none -> R 0 8 U) : Yl.call (some ⟨p, 0, none⟩) x U R := by
 refine Yl.of_vc ?_
 unfold Yl.vc
 refine Qy h (ifF rfl (WdV h x hx (fun hn => ifT rfl (h0 (HO hn))) fun i sl rb cs hof hi hb E => ifF rfl (nilP ?_)))
 obtain ⟨xx, s, hp, hs, hS⟩ := h.at_i hi
 have eg := Zx hp hs
 obtain ⟨r, hr⟩ := WhL hof hs
 have hk := V4 hof hs
 have hc := h.ok
 unfold Cls.ok at hc
 have hrl := ((Kw (by omega)).1 hr).2.2
 rw [hS.len] at hrl
 have hn := h.ok.n_le
 have hfit := hS.fit
 have hm : r * c.size <= 128 * 512 := Nat.mul_le_mul (by omega) (by omega)
 refine E.blk.rP (x := some ⟨xx.1, 0, none⟩) (E.get eg.2.2) ?_
 refine GH hS x hx (fun r' hr' => ?_) fun hn => by rw [hr] at hn; cases hn
 rw [hr] at hr'; cases hr'
 refine nilP (E.blk.rI2 (x := s.st) (E.get eg.2.1) (arN (m := s.st * 256) (by simp) (by omega) (nilP (hb.rI2 rfl ?_))))
 refine arN (m := r * c.size) (by simp) (by omega) (arN (m := at_ c s r) (by simp [at_]) (by unfold at_; omega) (h1 _ (by rw [hk, hr]; rfl)))
theorem Us {h : Hp} {rb i : Nat} {cs : List Value} {x y : Int} {z : Option Addr} {e : Nat} (hb : Blk h rb cs) (h0 : cs[3 * i]? = some (.int .i64 x)) (h1 : cs[3 * i + 1]? = some (.int .i64 y)) (h2 : cs[3 * i + 2]? = some (.pointer z))
 {K : Int -> Int -> Option Addr -> Prop} (hK : K x y z) : LdI .i64 (Addr.add ⟨rb, 3 * i, none⟩ 0) h fun u => LdI .i64 (Addr.add ⟨rb, 3 * i, none⟩ 1) h fun v => LdP (Addr.add ⟨rb, 3 * i, none⟩ 2) h fun w => K u v w :=
 hb.rI h0 (hb.rI h1 (hb.rP h2 hK))
theorem G6 {h : Hp} {x y : Int} {z : Option Addr} {e : Nat} {K : Addr -> Hp -> Prop} (hK : ∀ h', Ext0 h h' -> Blk h' h.size [.int .i64 x, .int .i64 y, .pointer z] -> K ⟨h.size, 0, none⟩ h') :
 Nw (.cells #[.int .i64 0, .int .i64 0, .pointer none] e (0, 0)) h fun n v => St1 (n.add 0) (.int .i64 x) v fun v1 => St1 (n.add 1) (.int .i64 y) v1 fun v2 => St1 (n.add 2) (.pointer z) v2 fun v3 => K n v3 := by
 refine nw (cs := [.int .i64 0, .int .i64 0, .pointer none]) fun v hz e hb => hb.s1 (by simp) fun v1 o1 b1 => b1.s1 (by simp) fun v2 o2 b2 => b2.s1 (by simp) fun v3 o3 b3 => ?_
 refine hK v3 ?_ b3
 exact Ext.fresh (Ext.fresh (Ext.fresh e o1.ext fun i hi => by omega) o2.ext fun i hi => by omega) o3.ext fun i hi => by omega
theorem Whe (h : CeH U F p c ps ss) {R : Int -> Hp -> Prop} (hR : ∀ σ', Ext0 U σ' -> R (Qs ss : Int) σ') : Yp.call (some ⟨p, 0, none⟩) U R := by
 refine Yp.of_vc ?_
 unfold Yp.vc
 obtain ⟨sl, hb, hl, hr⟩ := h.sl
 have hfew := h.few
 have hn := h.ok.n_le
 refine Qy h (ifF rfl (nilP (hb.rS rfl ?_)))
 refine KA (a := .i .i64) (bb := .i .i64) (fun (n t : Int) h' => ∃ i : Nat, t = (i : Int) /\ i <= ss.length /\ Ext0 U h' /\ n = (Qs (ss.take i) : Int) /\ Qs (ss.take i) <= 128 * i) (fun _ t _ => ss.length - t.toNat) ⟨0, rfl, by omega, Ext.refl _ _, by simp [Qs], by simp [Qs]⟩ ?_
 rintro n t h' ⟨i, rfl, hi, e, rfl, hle⟩
 refine ifD (fun hlt => ?_) fun hge => ?_
 ·simp only at hlt
  have hi' : i < ss.length := by omega
  obtain ⟨xx, s, hp, hs, hS⟩ := h.at_i hi'
  obtain ⟨rb, cs, E⟩ := hr (by rintro rfl; simp at hi')
  have eg := Zx hp hs
  rw [E.a]
  refine ix (by omega) (by omega) ?_
  rw [add_lit, show 0 + (i : Int).toNat * 3 = 3 * i by omega]
  refine Us (e := 0) (e.blk E.blk id) (E.get eg.1) (E.get eg.2.1) (E.get eg.2.2) (G6 fun v5 e5 b5 => ?_)
  have hS5 := (hS.keep0 e).keep0 e5
  refine ⟨fun h'' => Blk h'' h'.size [.int .i64 s.many, .int .i64 s.st, .pointer (some ⟨xx.1, 0, none⟩)], b5, ⟨_, fun h'' hS => by rw [add_lit, hS.cell]; rfl, ⟨_, fun h'' hS => by rw [add_lit, add_lit, hS.cell]; rfl, ?_⟩⟩⟩
  refine U7 hS5 ⟨b5, ?_⟩
  have hml := UH s
  have hsl := hS.len
  have htk : Qs (ss.take (i + 1)) = Qs (ss.take i) + (c.n - s.many) := by
   rw [List.take_add_one, hs]
   simp only [Qs, Option.toList_some, List.map_append, List.map_cons, List.map_nil, List.sum_append, List.sum_cons, List.sum_nil]
   omega
  refine arN (m := c.n - s.many) (by omega) (by omega) (arN (m := Qs (ss.take (i + 1))) (by omega) (by omega) (arN (m := i + 1) (by omega) (by omega) ⟨⟨i + 1, rfl, by omega, e.trans e5, rfl, by omega⟩, by omega⟩))
 ·have : i = ss.length := by simp only at hge; omega
  subst this
  rw [List.take_length] at *
  exact hR _ e
def runV (c : Cls) (l : List Nat) : List Value := l.flatMap fun (s : Nat) => [.int .i64 (s : Int), .int .i64 (c.pages : Int)]
theorem GY (c : Cls) (l : List Nat) : (runV c l).length = 2 * l.length := by
 induction l with
 | nil => rfl
 | cons x l ih => simp only [runV, List.flatMap_cons, List.length_append, List.length_cons, List.length_nil] at *; omega
theorem Wgj (h : CeH U F p c ps ss) {R : Sl -> Hp -> Prop} (hR : ∀ s σ', Ext0 U σ' -> RowR s 2 (runV c (ss.map (·.st))) σ' (fun b => U.size <= b) -> R s σ') : XV.call (some ⟨p, 0, none⟩) U R := by
 refine XV.of_vc ?_
 unfold XV.vc
 obtain ⟨sl, hb, hl, hr⟩ := h.sl
 have hfew := h.few
 refine Qy h (ifF rfl (nilP (hb.rS rfl ?_)))
 refine KA (a := .s) (bb := .i .i64) (fun (out : Sl) (t : Int) h' => ∃ i : Nat, t = (i : Int) /\ i <= ss.length /\ Ext0 U h' /\ RowR out 2 (runV c ((ss.take i).map (·.st))) h' (fun b => U.size <= b)) (fun _ t _ => ss.length - t.toNat) ⟨0, rfl, by omega, Ext.refl _ _, RowR.nil _ _ _ _⟩ ?_
 rintro out t h' ⟨i, rfl, hi, e, hrow⟩
 refine ifD (fun hlt => ?_) fun hge => ?_
 ·simp only at hlt
  have hi' : i < ss.length := by omega
  obtain ⟨xx, s, hp, hs, hS⟩ := h.at_i hi'
  obtain ⟨rb, cs, E⟩ := hr (by rintro rfl; simp at hi')
  have eg := Zx hp hs
  rw [E.a]
  refine ix (by omega) (by omega) ?_
  rw [add_lit, show 0 + (i : Int).toNat * 3 = 3 * i by omega]
  refine Us (e := 0) (e.blk E.blk id) (E.get eg.1) (E.get eg.2.1) (E.get eg.2.2) (G6 fun v5 e5 b5 => b5.rP rfl ?_)
  have hS5 := (hS.keep0 e).keep0 e5
  refine WgT hS5 fun v6 e6 => ?_
  have e06 := (e.trans e5).trans e6
  have hrow6 := (RowR.loc _ _ _).keep0 ((RowR.loc _ _ _).keep0 hrow e5) e6
  have hlen := hrow6.1
  rw [GY, List.length_map, List.length_take] at hlen
  refine hrow6.push (vs := [.int .i64 (s.st : Int), .int .i64 (c.pages : Int)]) (fun b hb => Nat.le_trans e06.1 hb) rfl rfl (by simp [one1]) (by omega) (by omega) fun s' v8 hl' e' ho' => ?_
  refine arN (m := i + 1) (by omega) (by omega) ⟨⟨i + 1, rfl, by omega, Ext.fresh e06 e' fun _ h => h, ?_⟩, by omega⟩
  rw [List.take_add_one, hs]
  simp only [runV, Option.toList_some, List.map_append, List.map_cons, List.map_nil, List.flatMap_append, List.flatMap_cons, List.flatMap_nil, List.append_nil] at *
  exact ho'
 ·have : i = ss.length := by simp only at hge; omega
  subst this
  rw [List.take_length] at *
  exact hR _ _ e hrow
theorem Whj (hc : c.ok) {R : Option Addr -> Int -> Hp -> Prop} (hR : ∀ σ' p, Ext0 U σ' -> U.size <= p -> p < σ'.size -> CeH σ' (· = p) p c [] [] -> R (some ⟨p, 0, none⟩) 0 σ') : Zs.call c.size c.pages c.batch U R := by
 refine Zs.of_vc ?_
 unfold Zs.vc
 refine nw (cs := [.int .i64 c.size, .int .i64 c.pages, .int .i64 c.batch]) fun v hz e hb => ?_
 refine hb.rI rfl (hb.rI rfl (hb.rI rfl (HK _ _ _ (fun c' hc' e1 e2 e3 v1 ex => ?_) fun hno => ?_)))
 case refine_2 => rw [(UR c).2 hc] at hno; cases hno
 have hb1 := ex.blk hb id
 refine ifF rfl (hb1.rI rfl (hb1.rI rfl (hb1.rI rfl (nw (cs := [.int .i64 c.size, .int .i64 c.pages, .int .i64 c.batch, .slice none 0 0]) fun v2 hz2 ex2 hb2 => ?_))))
 exact hR _ _ ((e.trans ex).trans ex2) (by have := ex.1; omega) (by omega) ⟨⟨⟨none, 0, 0⟩, hb2, RowR.nil _ _ _ _⟩, by simp, rfl, by simp [blks], by simp [blks], rfl, hc, by simp⟩
end Go.Ar