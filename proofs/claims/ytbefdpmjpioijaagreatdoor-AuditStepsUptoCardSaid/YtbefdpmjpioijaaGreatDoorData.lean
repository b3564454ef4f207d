/- The data of the program as Lean structures, and the cells in which they lie. Written by a program. -/
import Derived.Test.YtbefdpmjpioijaaGreatDoorAwEnd
set_option linter.unusedSimpArgs false
namespace Go.Aw.D
open Go.Aw
def encInt (n : Int) : List AV := [.v (.int .i64 n)]
def encBool (b : Bool) : List AV := [.v (.bool b)]
def encStr (s : ByteArray) : List AV := [.v (.string s)]
theorem encInt_len (x : Int) : (encInt x).length = 1 := rfl
theorem encInt_0 (x : Int) : (encInt x).getD 0 .any = .v (.int .i64 x) := rfl
theorem encBool_len (x : Bool) : (encBool x).length = 1 := rfl
theorem encBool_0 (x : Bool) : (encBool x).getD 0 .any = .v (.bool x) := rfl
theorem encStr_len (x : ByteArray) : (encStr x).length = 1 := rfl
theorem encStr_0 (x : ByteArray) : (encStr x).getD 0 .any = .v (.string x) := rfl
structure Point where
  t : Int
  a : Int
  deriving DecidableEq
def encPoint (x : Point) : List AV := [.v (.int .i64 x.t), .v (.int .i64 x.a)]
theorem encPoint_len (x : Point) : (encPoint x).length = 2 := rfl
theorem encPoint_0 (x : Point) : (encPoint x).getD 0 .any = .v (.int .i64 x.t) := rfl
theorem encPoint_1 (x : Point) : (encPoint x).getD 1 .any = .v (.int .i64 x.a) := rfl
theorem encPoint_all (x : Point) : (encPoint x).take 2 = encPoint x := rfl
structure Arc where
  src : Int
  dst : Int
  profile : Int
  miles : Int
  travel : List Point
  slow : List Point
  deriving DecidableEq
def encArc (x : Arc) : List AV := [.v (.int .i64 x.src), .v (.int .i64 x.dst), .v (.int .i64 x.profile), .v (.int .i64 x.miles), .sl (x.travel.map encPoint), .sl (x.slow.map encPoint)]
theorem encArc_len (x : Arc) : (encArc x).length = 6 := rfl
theorem encArc_0 (x : Arc) : (encArc x).getD 0 .any = .v (.int .i64 x.src) := rfl
theorem encArc_1 (x : Arc) : (encArc x).getD 1 .any = .v (.int .i64 x.dst) := rfl
theorem encArc_2 (x : Arc) : (encArc x).getD 2 .any = .v (.int .i64 x.profile) := rfl
theorem encArc_3 (x : Arc) : (encArc x).getD 3 .any = .v (.int .i64 x.miles) := rfl
theorem encArc_4 (x : Arc) : (encArc x).getD 4 .any = .sl (x.travel.map encPoint) := rfl
theorem encArc_5 (x : Arc) : (encArc x).getD 5 .any = .sl (x.slow.map encPoint) := rfl
theorem encArc_all (x : Arc) : (encArc x).take 6 = encArc x := rfl
structure Network where
  places : List ByteArray
  arcs : List Arc
  deriving DecidableEq
def encNetwork (x : Network) : List AV := [.sl (x.places.map encStr), .sl (x.arcs.map encArc)]
theorem encNetwork_len (x : Network) : (encNetwork x).length = 2 := rfl
theorem encNetwork_0 (x : Network) : (encNetwork x).getD 0 .any = .sl (x.places.map encStr) := rfl
theorem encNetwork_1 (x : Network) : (encNetwork x).getD 1 .any = .sl (x.arcs.map encArc) := rfl
theorem encNetwork_all (x : Network) : (encNetwork x).take 2 = encNetwork x := rfl
structure VType where
  name : ByteArray
  count : Int
  src : Int
  dst : Int
  cap : List Int
  skills : Int
  profile : Int
  start : Int
  close : Int
  drive : Int
  rest : Int
  fixed : Int
  perMile : Int
  perTick : Int
  deriving DecidableEq
def encVType (x : VType) : List AV := [.v (.string x.name), .v (.int .i64 x.count), .v (.int .i64 x.src), .v (.int .i64 x.dst), .sl (x.cap.map encInt), .v (.int .i64 x.skills), .v (.int .i64 x.profile), .v (.int .i64 x.start), .v (.int .i64 x.close), .v (.int .i64 x.drive), .v (.int .i64 x.rest), .v (.int .i64 x.fixed), .v (.int .i64 x.perMile), .v (.int .i64 x.perTick)]
theorem encVType_len (x : VType) : (encVType x).length = 14 := rfl
theorem encVType_0 (x : VType) : (encVType x).getD 0 .any = .v (.string x.name) := rfl
theorem encVType_1 (x : VType) : (encVType x).getD 1 .any = .v (.int .i64 x.count) := rfl
theorem encVType_2 (x : VType) : (encVType x).getD 2 .any = .v (.int .i64 x.src) := rfl
theorem encVType_3 (x : VType) : (encVType x).getD 3 .any = .v (.int .i64 x.dst) := rfl
theorem encVType_4 (x : VType) : (encVType x).getD 4 .any = .sl (x.cap.map encInt) := rfl
theorem encVType_5 (x : VType) : (encVType x).getD 5 .any = .v (.int .i64 x.skills) := rfl
theorem encVType_6 (x : VType) : (encVType x).getD 6 .any = .v (.int .i64 x.profile) := rfl
theorem encVType_7 (x : VType) : (encVType x).getD 7 .any = .v (.int .i64 x.start) := rfl
theorem encVType_8 (x : VType) : (encVType x).getD 8 .any = .v (.int .i64 x.close) := rfl
theorem encVType_9 (x : VType) : (encVType x).getD 9 .any = .v (.int .i64 x.drive) := rfl
theorem encVType_10 (x : VType) : (encVType x).getD 10 .any = .v (.int .i64 x.rest) := rfl
theorem encVType_11 (x : VType) : (encVType x).getD 11 .any = .v (.int .i64 x.fixed) := rfl
theorem encVType_12 (x : VType) : (encVType x).getD 12 .any = .v (.int .i64 x.perMile) := rfl
theorem encVType_13 (x : VType) : (encVType x).getD 13 .any = .v (.int .i64 x.perTick) := rfl
theorem encVType_all (x : VType) : (encVType x).take 14 = encVType x := rfl
structure Stop where
  place : Int
  start : Int
  close : Int
  service : Int
  deriving DecidableEq
def encStop (x : Stop) : List AV := [.v (.int .i64 x.place), .v (.int .i64 x.start), .v (.int .i64 x.close), .v (.int .i64 x.service)]
theorem encStop_len (x : Stop) : (encStop x).length = 4 := rfl
theorem encStop_0 (x : Stop) : (encStop x).getD 0 .any = .v (.int .i64 x.place) := rfl
theorem encStop_1 (x : Stop) : (encStop x).getD 1 .any = .v (.int .i64 x.start) := rfl
theorem encStop_2 (x : Stop) : (encStop x).getD 2 .any = .v (.int .i64 x.close) := rfl
theorem encStop_3 (x : Stop) : (encStop x).getD 3 .any = .v (.int .i64 x.service) := rfl
theorem encStop_all (x : Stop) : (encStop x).take 4 = encStop x := rfl
structure Order where
  name : ByteArray
  load : List Int
  pick : Stop
  drop : Stop
  skills : Int
  penalty : Int
  split : Int
  last : Int
  now : Int
  off : Bool
  deriving DecidableEq
def encOrder (x : Order) : List AV := [.v (.string x.name), .sl (x.load.map encInt), .v (.int .i64 x.pick.place), .v (.int .i64 x.pick.start), .v (.int .i64 x.pick.close), .v (.int .i64 x.pick.service), .v (.int .i64 x.drop.place), .v (.int .i64 x.drop.start), .v (.int .i64 x.drop.close), .v (.int .i64 x.drop.service), .v (.int .i64 x.skills), .v (.int .i64 x.penalty), .v (.int .i64 x.split), .v (.int .i64 x.last), .v (.int .i64 x.now), .v (.bool x.off)]
theorem encOrder_len (x : Order) : (encOrder x).length = 16 := rfl
theorem encOrder_0 (x : Order) : (encOrder x).getD 0 .any = .v (.string x.name) := rfl
theorem encOrder_1 (x : Order) : (encOrder x).getD 1 .any = .sl (x.load.map encInt) := rfl
theorem encOrder_2 (x : Order) : (encOrder x).getD 2 .any = .v (.int .i64 x.pick.place) := rfl
theorem encOrder_3 (x : Order) : (encOrder x).getD 3 .any = .v (.int .i64 x.pick.start) := rfl
theorem encOrder_4 (x : Order) : (encOrder x).getD 4 .any = .v (.int .i64 x.pick.close) := rfl
theorem encOrder_5 (x : Order) : (encOrder x).getD 5 .any = .v (.int .i64 x.pick.service) := rfl
theorem encOrder_6 (x : Order) : (encOrder x).getD 6 .any = .v (.int .i64 x.drop.place) := rfl
theorem encOrder_7 (x : Order) : (encOrder x).getD 7 .any = .v (.int .i64 x.drop.start) := rfl
theorem encOrder_8 (x : Order) : (encOrder x).getD 8 .any = .v (.int .i64 x.drop.close) := rfl
theorem encOrder_9 (x : Order) : (encOrder x).getD 9 .any = .v (.int .i64 x.drop.service) := rfl
theorem encOrder_10 (x : Order) : (encOrder x).getD 10 .any = .v (.int .i64 x.skills) := rfl
theorem encOrder_11 (x : Order) : (encOrder x).getD 11 .any = .v (.int .i64 x.penalty) := rfl
theorem encOrder_12 (x : Order) : (encOrder x).getD 12 .any = .v (.int .i64 x.split) := rfl
theorem encOrder_13 (x : Order) : (encOrder x).getD 13 .any = .v (.int .i64 x.last) := rfl
theorem encOrder_14 (x : Order) : (encOrder x).getD 14 .any = .v (.int .i64 x.now) := rfl
theorem encOrder_15 (x : Order) : (encOrder x).getD 15 .any = .v (.bool x.off) := rfl
theorem encOrder_all (x : Order) : (encOrder x).take 16 = encOrder x := rfl
theorem encOrder_pick (x : Order) : ((encOrder x).drop 2).take 4 = encStop x.pick := rfl
theorem encOrder_drop (x : Order) : ((encOrder x).drop 6).take 4 = encStop x.drop := rfl
structure Pair where
  a : Int
  b : Int
  deriving DecidableEq
def encPair (x : Pair) : List AV := [.v (.int .i64 x.a), .v (.int .i64 x.b)]
theorem encPair_len (x : Pair) : (encPair x).length = 2 := rfl
theorem encPair_0 (x : Pair) : (encPair x).getD 0 .any = .v (.int .i64 x.a) := rfl
theorem encPair_1 (x : Pair) : (encPair x).getD 1 .any = .v (.int .i64 x.b) := rfl
theorem encPair_all (x : Pair) : (encPair x).take 2 = encPair x := rfl
structure Instance where
  net : Network
  types : List VType
  orders : List Order
  apart : List Pair
  before : List Pair
  deriving DecidableEq
def encInstance (x : Instance) : List AV := [.sl (x.net.places.map encStr), .sl (x.net.arcs.map encArc), .sl (x.types.map encVType), .sl (x.orders.map encOrder), .sl (x.apart.map encPair), .sl (x.before.map encPair)]
theorem encInstance_len (x : Instance) : (encInstance x).length = 6 := rfl
theorem encInstance_0 (x : Instance) : (encInstance x).getD 0 .any = .sl (x.net.places.map encStr) := rfl
theorem encInstance_1 (x : Instance) : (encInstance x).getD 1 .any = .sl (x.net.arcs.map encArc) := rfl
theorem encInstance_2 (x : Instance) : (encInstance x).getD 2 .any = .sl (x.types.map encVType) := rfl
theorem encInstance_3 (x : Instance) : (encInstance x).getD 3 .any = .sl (x.orders.map encOrder) := rfl
theorem encInstance_4 (x : Instance) : (encInstance x).getD 4 .any = .sl (x.apart.map encPair) := rfl
theorem encInstance_5 (x : Instance) : (encInstance x).getD 5 .any = .sl (x.before.map encPair) := rfl
theorem encInstance_all (x : Instance) : (encInstance x).take 6 = encInstance x := rfl
theorem encInstance_net (x : Instance) : (encInstance x).take 2 = encNetwork x.net := rfl
structure Visit where
  order : Int
  drop : Bool
  deriving DecidableEq
def encVisit (x : Visit) : List AV := [.v (.int .i64 x.order), .v (.bool x.drop)]
theorem encVisit_len (x : Visit) : (encVisit x).length = 2 := rfl
theorem encVisit_0 (x : Visit) : (encVisit x).getD 0 .any = .v (.int .i64 x.order) := rfl
theorem encVisit_1 (x : Visit) : (encVisit x).getD 1 .any = .v (.bool x.drop) := rfl
theorem encVisit_all (x : Visit) : (encVisit x).take 2 = encVisit x := rfl
structure Route where
  type : Int
  start : Int
  rests : List Bool
  visits : List Visit
  deriving DecidableEq
def encRoute (x : Route) : List AV := [.v (.int .i64 x.type), .v (.int .i64 x.start), .sl (x.rests.map encBool), .sl (x.visits.map encVisit)]
theorem encRoute_len (x : Route) : (encRoute x).length = 4 := rfl
theorem encRoute_0 (x : Route) : (encRoute x).getD 0 .any = .v (.int .i64 x.type) := rfl
theorem encRoute_1 (x : Route) : (encRoute x).getD 1 .any = .v (.int .i64 x.start) := rfl
theorem encRoute_2 (x : Route) : (encRoute x).getD 2 .any = .sl (x.rests.map encBool) := rfl
theorem encRoute_3 (x : Route) : (encRoute x).getD 3 .any = .sl (x.visits.map encVisit) := rfl
theorem encRoute_all (x : Route) : (encRoute x).take 4 = encRoute x := rfl
structure Plan where
  routes : List Route
  unserved : List Int
  deriving DecidableEq
def encPlan (x : Plan) : List AV := [.sl (x.routes.map encRoute), .sl (x.unserved.map encInt)]
theorem encPlan_len (x : Plan) : (encPlan x).length = 2 := rfl
theorem encPlan_0 (x : Plan) : (encPlan x).getD 0 .any = .sl (x.routes.map encRoute) := rfl
theorem encPlan_1 (x : Plan) : (encPlan x).getD 1 .any = .sl (x.unserved.map encInt) := rfl
theorem encPlan_all (x : Plan) : (encPlan x).take 2 = encPlan x := rfl
structure Fault where
  err : Int
  at_ : ByteArray
  deriving DecidableEq
def encFault (x : Fault) : List AV := [.v (.int .i64 x.err), .v (.string x.at_)]
theorem encFault_len (x : Fault) : (encFault x).length = 2 := rfl
theorem encFault_0 (x : Fault) : (encFault x).getD 0 .any = .v (.int .i64 x.err) := rfl
theorem encFault_1 (x : Fault) : (encFault x).getD 1 .any = .v (.string x.at_) := rfl
theorem encFault_all (x : Fault) : (encFault x).take 2 = encFault x := rfl
structure Decision where
  kind : Int
  a : Int
  b : Int
  n : Int
  deriving DecidableEq
def encDecision (x : Decision) : List AV := [.v (.int .i64 x.kind), .v (.int .i64 x.a), .v (.int .i64 x.b), .v (.int .i64 x.n)]
theorem encDecision_len (x : Decision) : (encDecision x).length = 4 := rfl
theorem encDecision_0 (x : Decision) : (encDecision x).getD 0 .any = .v (.int .i64 x.kind) := rfl
theorem encDecision_1 (x : Decision) : (encDecision x).getD 1 .any = .v (.int .i64 x.a) := rfl
theorem encDecision_2 (x : Decision) : (encDecision x).getD 2 .any = .v (.int .i64 x.b) := rfl
theorem encDecision_3 (x : Decision) : (encDecision x).getD 3 .any = .v (.int .i64 x.n) := rfl
theorem encDecision_all (x : Decision) : (encDecision x).take 4 = encDecision x := rfl
structure Column where
  type : Int
  set : Int
  price : Int
  route : Route
  deriving DecidableEq
def encColumn (x : Column) : List AV := [.v (.int .i64 x.type), .v (.int .i64 x.set), .v (.int .i64 x.price), .v (.int .i64 x.route.type), .v (.int .i64 x.route.start), .sl (x.route.rests.map encBool), .sl (x.route.visits.map encVisit)]
theorem encColumn_len (x : Column) : (encColumn x).length = 7 := rfl
theorem encColumn_0 (x : Column) : (encColumn x).getD 0 .any = .v (.int .i64 x.type) := rfl
theorem encColumn_1 (x : Column) : (encColumn x).getD 1 .any = .v (.int .i64 x.set) := rfl
theorem encColumn_2 (x : Column) : (encColumn x).getD 2 .any = .v (.int .i64 x.price) := rfl
theorem encColumn_3 (x : Column) : (encColumn x).getD 3 .any = .v (.int .i64 x.route.type) := rfl
theorem encColumn_4 (x : Column) : (encColumn x).getD 4 .any = .v (.int .i64 x.route.start) := rfl
theorem encColumn_5 (x : Column) : (encColumn x).getD 5 .any = .sl (x.route.rests.map encBool) := rfl
theorem encColumn_6 (x : Column) : (encColumn x).getD 6 .any = .sl (x.route.visits.map encVisit) := rfl
theorem encColumn_all (x : Column) : (encColumn x).take 7 = encColumn x := rfl
theorem encColumn_route (x : Column) : ((encColumn x).drop 3).take 4 = encRoute x.route := rfl
structure Score where
  cost : Int
  moved : Int
  other : Int
  work : Int
  deriving DecidableEq
def encScore (x : Score) : List AV := [.v (.int .i64 x.cost), .v (.int .i64 x.moved), .v (.int .i64 x.other), .v (.int .i64 x.work)]
theorem encScore_len (x : Score) : (encScore x).length = 4 := rfl
theorem encScore_0 (x : Score) : (encScore x).getD 0 .any = .v (.int .i64 x.cost) := rfl
theorem encScore_1 (x : Score) : (encScore x).getD 1 .any = .v (.int .i64 x.moved) := rfl
theorem encScore_2 (x : Score) : (encScore x).getD 2 .any = .v (.int .i64 x.other) := rfl
theorem encScore_3 (x : Score) : (encScore x).getD 3 .any = .v (.int .i64 x.work) := rfl
theorem encScore_all (x : Score) : (encScore x).take 4 = encScore x := rfl
structure Cut where
  kind : Int
  set : Int
  n : Int
  deriving DecidableEq
def encCut (x : Cut) : List AV := [.v (.int .i64 x.kind), .v (.int .i64 x.set), .v (.int .i64 x.n)]
theorem encCut_len (x : Cut) : (encCut x).length = 3 := rfl
theorem encCut_0 (x : Cut) : (encCut x).getD 0 .any = .v (.int .i64 x.kind) := rfl
theorem encCut_1 (x : Cut) : (encCut x).getD 1 .any = .v (.int .i64 x.set) := rfl
theorem encCut_2 (x : Cut) : (encCut x).getD 2 .any = .v (.int .i64 x.n) := rfl
theorem encCut_all (x : Cut) : (encCut x).take 3 = encCut x := rfl
structure TimeT where
  arrive : Int
  start : Int
  depart : Int
  rest : Bool
  deriving DecidableEq
def encTimeT (x : TimeT) : List AV := [.v (.int .i64 x.arrive), .v (.int .i64 x.start), .v (.int .i64 x.depart), .v (.bool x.rest)]
theorem encTimeT_len (x : TimeT) : (encTimeT x).length = 4 := rfl
theorem encTimeT_0 (x : TimeT) : (encTimeT x).getD 0 .any = .v (.int .i64 x.arrive) := rfl
theorem encTimeT_1 (x : TimeT) : (encTimeT x).getD 1 .any = .v (.int .i64 x.start) := rfl
theorem encTimeT_2 (x : TimeT) : (encTimeT x).getD 2 .any = .v (.int .i64 x.depart) := rfl
theorem encTimeT_3 (x : TimeT) : (encTimeT x).getD 3 .any = .v (.bool x.rest) := rfl
theorem encTimeT_all (x : TimeT) : (encTimeT x).take 4 = encTimeT x := rfl
structure Weight where
  yes : Int
  no : Int
  noneYes : Bool
  noneNo : Bool
  deriving DecidableEq
def encWeight (x : Weight) : List AV := [.v (.int .i64 x.yes), .v (.int .i64 x.no), .v (.bool x.noneYes), .v (.bool x.noneNo)]
theorem encWeight_len (x : Weight) : (encWeight x).length = 4 := rfl
theorem encWeight_0 (x : Weight) : (encWeight x).getD 0 .any = .v (.int .i64 x.yes) := rfl
theorem encWeight_1 (x : Weight) : (encWeight x).getD 1 .any = .v (.int .i64 x.no) := rfl
theorem encWeight_2 (x : Weight) : (encWeight x).getD 2 .any = .v (.bool x.noneYes) := rfl
theorem encWeight_3 (x : Weight) : (encWeight x).getD 3 .any = .v (.bool x.noneNo) := rfl
theorem encWeight_all (x : Weight) : (encWeight x).take 4 = encWeight x := rfl
structure StepT where
  inst : Instance
  plan : Plan
  now : Int
  deriving DecidableEq
def encStepT (x : StepT) : List AV := [.sl (x.inst.net.places.map encStr), .sl (x.inst.net.arcs.map encArc), .sl (x.inst.types.map encVType), .sl (x.inst.orders.map encOrder), .sl (x.inst.apart.map encPair), .sl (x.inst.before.map encPair), .sl (x.plan.routes.map encRoute), .sl (x.plan.unserved.map encInt), .v (.int .i64 x.now)]
theorem encStepT_len (x : StepT) : (encStepT x).length = 9 := rfl
theorem encStepT_0 (x : StepT) : (encStepT x).getD 0 .any = .sl (x.inst.net.places.map encStr) := rfl
theorem encStepT_1 (x : StepT) : (encStepT x).getD 1 .any = .sl (x.inst.net.arcs.map encArc) := rfl
theorem encStepT_2 (x : StepT) : (encStepT x).getD 2 .any = .sl (x.inst.types.map encVType) := rfl
theorem encStepT_3 (x : StepT) : (encStepT x).getD 3 .any = .sl (x.inst.orders.map encOrder) := rfl
theorem encStepT_4 (x : StepT) : (encStepT x).getD 4 .any = .sl (x.inst.apart.map encPair) := rfl
theorem encStepT_5 (x : StepT) : (encStepT x).getD 5 .any = .sl (x.inst.before.map encPair) := rfl
theorem encStepT_6 (x : StepT) : (encStepT x).getD 6 .any = .sl (x.plan.routes.map encRoute) := rfl
theorem encStepT_7 (x : StepT) : (encStepT x).getD 7 .any = .sl (x.plan.unserved.map encInt) := rfl
theorem encStepT_8 (x : StepT) : (encStepT x).getD 8 .any = .v (.int .i64 x.now) := rfl
theorem encStepT_all (x : StepT) : (encStepT x).take 9 = encStepT x := rfl
theorem encStepT_inst (x : StepT) : (encStepT x).take 6 = encInstance x.inst := rfl
theorem encStepT_plan (x : StepT) : ((encStepT x).drop 6).take 2 = encPlan x.plan := rfl
structure Sheet where
  rest : Bool
  depart : Int
  times : List TimeT
  stop : Int
  miles : Int
  deriving DecidableEq
def encSheet (x : Sheet) : List AV := [.v (.bool x.rest), .v (.int .i64 x.depart), .sl (x.times.map encTimeT), .v (.int .i64 x.stop), .v (.int .i64 x.miles)]
theorem encSheet_len (x : Sheet) : (encSheet x).length = 5 := rfl
theorem encSheet_0 (x : Sheet) : (encSheet x).getD 0 .any = .v (.bool x.rest) := rfl
theorem encSheet_1 (x : Sheet) : (encSheet x).getD 1 .any = .v (.int .i64 x.depart) := rfl
theorem encSheet_2 (x : Sheet) : (encSheet x).getD 2 .any = .sl (x.times.map encTimeT) := rfl
theorem encSheet_3 (x : Sheet) : (encSheet x).getD 3 .any = .v (.int .i64 x.stop) := rfl
theorem encSheet_4 (x : Sheet) : (encSheet x).getD 4 .any = .v (.int .i64 x.miles) := rfl
theorem encSheet_all (x : Sheet) : (encSheet x).take 5 = encSheet x := rfl
attribute [go_sem] encInt_len encInt_0 encBool_len encBool_0 encStr_len encStr_0 encPoint_len encPoint_0 encPoint_1 encPoint_all encArc_len encArc_0 encArc_1 encArc_2 encArc_3 encArc_4 encArc_5 encArc_all encNetwork_len encNetwork_0 encNetwork_1 encNetwork_all encVType_len encVType_0 encVType_1 encVType_2 encVType_3 encVType_4 encVType_5 encVType_6 encVType_7 encVType_8 encVType_9 encVType_10 encVType_11 encVType_12 encVType_13 encVType_all encStop_len encStop_0 encStop_1 encStop_2 encStop_3 encStop_all encOrder_len encOrder_0 encOrder_1 encOrder_2 encOrder_3 encOrder_4 encOrder_5 encOrder_6 encOrder_7 encOrder_8 encOrder_9 encOrder_10 encOrder_11 encOrder_12 encOrder_13 encOrder_14 encOrder_15 encOrder_all encOrder_pick encOrder_drop encPair_len encPair_0 encPair_1 encPair_all encInstance_len encInstance_0 encInstance_1 encInstance_2 encInstance_3 encInstance_4 encInstance_5 encInstance_all encInstance_net encVisit_len encVisit_0 encVisit_1 encVisit_all encRoute_len encRoute_0 encRoute_1 encRoute_2 encRoute_3 encRoute_all encPlan_len encPlan_0 encPlan_1 encPlan_all encFault_len encFault_0 encFault_1 encFault_all encDecision_len encDecision_0 encDecision_1 encDecision_2 encDecision_3 encDecision_all encColumn_len encColumn_0 encColumn_1 encColumn_2 encColumn_3 encColumn_4 encColumn_5 encColumn_6 encColumn_all encColumn_route encScore_len encScore_0 encScore_1 encScore_2 encScore_3 encScore_all encCut_len encCut_0 encCut_1 encCut_2 encCut_all encTimeT_len encTimeT_0 encTimeT_1 encTimeT_2 encTimeT_3 encTimeT_all encWeight_len encWeight_0 encWeight_1 encWeight_2 encWeight_3 encWeight_all encStepT_len encStepT_0 encStepT_1 encStepT_2 encStepT_3 encStepT_4 encStepT_5 encStepT_6 encStepT_7 encStepT_8 encStepT_all encStepT_inst encStepT_plan encSheet_len encSheet_0 encSheet_1 encSheet_2 encSheet_3 encSheet_4 encSheet_all

theorem getD_map {α : Type} {f : α → List AV} {l : List α} {k : Nat} {x : α} (h : l[k]? = some x) : (l.map f).getD k [] = f x := by simp [List.getD, h]
theorem map_len {α : Type} (f : α → List AV) (l : List α) : (l.map f).length = l.length := List.length_map f
theorem nat_toNat (n : Nat) : ((n : Int)).toNat = n := Int.toNat_natCast n
attribute [go_sem] map_len nat_toNat
theorem wrap_in {n : Int} (h : -9223372036854775808 ≤ n ∧ n ≤ 9223372036854775807) : IntKind.i64.wrap n = n := IntWalk.i64_in n h

end Go.Aw.D
